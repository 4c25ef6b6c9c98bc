/-
  A region that draws its order: loads taken first although a later operation of the region writes their cells. The condition on the world hangs on which operations have come up.
-/
import Derived.OrdersHeld
import Derived.Test.YtpohefpiidlnjaaWords
import Derived.Test.YtpohefpiidlnjaaWordsRound
import Derived.Test.YtpohefpiidlnjaaWordsApp
namespace Go.Proofs.Ytpohefpiidlnjaa.Wd
open Go Go.RowKit

section
variable {P : Program} {ops : Array Oper} {Q : Exit → Act → World → Prop} {md : Region.Mode} {B : List Nat} {S : (Nat → Bool) → World → Prop}

/-- Does number b wait for number i? -/
def waits (md : Region.Mode) (ops : Array Oper) (b i : Nat) : Bool := match ops[b]? with
  | some ob => ob.after.any fun e => Region.binds md e && e.on == i
  | none => false
/-- Nobody who waits for number i has come up. -/
def Ahead (md : Region.Mode) (ops : Array Oper) (i : Nat) (L : Array Bool) : Prop := ∀ b, waits md ops b i = true → L.getD b false = false
def aheadB (md : Region.Mode) (ops : Array Oper) (i : Nat) (L : Array Bool) : Bool := (List.range ops.size).all fun b => !waits md ops b i || !L.getD b false
theorem ahead_of {i : Nat} {L : Array Bool} (h : aheadB md ops i L = true) : Ahead md ops i L := fun b hb => by
  by_cases hlt : b < ops.size
  · have := List.all_eq_true.1 h b (List.mem_range.2 hlt)
    simp only [hb, Bool.not_true, Bool.false_or, Bool.not_eq_true'] at this
    exact this
  · simp [waits, Array.getElem?_eq_none (Nat.le_of_not_lt hlt)] at hb
/-- Which of the marked operations have come up. -/
def came (B : List Nat) (L : Array Bool) : Nat → Bool := fun b => B.contains b && L.getD b false
theorem came_set {L : Array Bool} {i : Nat} (h : B.contains i = false) : came B (L.setIfInBounds i true) = came B L := by
  funext b
  unfold came
  by_cases hb : i = b
  · subst hb; simp only [h, Bool.false_and]
  · rw [getD_set_ne false hb]
theorem waits_not_ready {L : Array Bool} {i j : Nat} (hj : j ∈ Region.ready md ops L) (hi : L.getD i false = false) : waits md ops j i = false := by
  obtain ⟨_, oj, hoj, hall⟩ := mem_ready.1 hj
  unfold waits
  simp only [hoj]
  rw [Bool.eq_false_iff]
  intro h
  obtain ⟨e, he, hb⟩ := Array.any_eq_true'.1 h
  simp only [Bool.and_eq_true, beq_iff_eq] at hb
  have := hall e he hb.1
  rw [hb.2, hi] at this
  cases this
/-- The worlds that number i may meet. -/
def Meets (md : Region.Mode) (ops : Array Oper) (B : List Nat) (S : (Nat → Bool) → World → Prop) (i : Nat) (w : World) : Prop := ∃ L, Ahead md ops i L ∧ S (came B L) w

def wpAnyG (P : Program) (md : Region.Mode) (ops : Array Oper) (Q : Exit → Act → World → Prop) (B : List Nat) (S : (Nat → Bool) → World → Prop) : Nat → Array Bool → Act → World → Prop
  | 0, listed, a, w => Region.ready md ops listed = [] ∧ Q .normal a w
  | fuel + 1, listed, a, w =>
    (Region.ready md ops listed = [] → Q .normal a w) ∧
    ∀ i ∈ Region.ready md ops listed, wpOp P ops Q i (fun a' w' => S (came B (listed.setIfInBounds i true)) w' ∧ wpAnyG P md ops Q B S fuel (listed.setIfInBounds i true) a' w') a w

theorem wpAny_of_heldG : ∀ (fuel : Nat) (listed : Array Bool) (a : Act) (w : World), wpAnyG P md ops Q B S fuel listed a w → wpAny P md ops Q fuel listed a w
  | 0, _, _, _, h => h
  | fuel + 1, _, _, _, h => ⟨h.1, fun i hi => wpOp_mono (fun a' w' h' => wpAny_of_heldG fuel _ a' w' h'.2) (h.2 i hi)⟩

theorem wpAnyG_first {i : Nat} {oi : Oper} {v : Value} (hi : ops[i]? = some oi) (hsel : ∀ (j : Nat) (o : Oper) cs b, ops[j]? = some o → o.op ≠ .select cs b)
    (hQ : ∀ c a w, Q (.panic c) (a.put oi.dst v) w → Q (.panic c) a w) (hSi : B.contains i = false) :
    ∀ (fuel : Nat) (listed : Array Bool) (a : Act) (w : World),
      (∀ j oj, ops[j]? = some oj → j ≠ i → listed.getD j true = false → (∀ e ∈ oj.after, Region.binds md e = true → e.on ≠ i) → oi.apart ops oj = true) →
      i ∈ Region.ready md ops listed → Ahead md ops i listed → YieldsIf P ops (Meets md ops B S i) oi v a → S (came B listed) w →
      wpAnyG P md ops Q B S fuel (listed.setIfInBounds i true) (a.put oi.dst v) w → wpAnyG P md ops Q B S (fuel + 1) listed a w := by
  intro fuel
  induction fuel with
  | zero =>
    intro listed a w _ hr hcl hy hS H
    refine ⟨fun h => (by rw [h] at hr; cases hr), fun j hj => ?_⟩
    by_cases hji : j = i
    · subst hji
      exact hy.wpOp hi ⟨listed, hcl, hS⟩ ⟨by rw [came_set hSi]; exact hS, H⟩
    · have := ready_mono hj hji
      rw [H.1] at this
      cases this
  | succ fuel ih =>
    intro listed a w hfree hr hcl hy hS H
    refine ⟨fun h => (by rw [h] at hr; cases hr), fun j hj => ?_⟩
    by_cases hji : j = i
    · subst hji; exact hy.wpOp hi ⟨listed, hcl, hS⟩ ⟨by rw [came_set hSi]; exact hS, H⟩
    · have h1 := H.2 j (ready_mono hj hji)
      obtain ⟨hjun, oj, hoj, hall⟩ := mem_ready.1 hj
      have hi0 : listed.getD i false = false := by
        have h0 := (mem_ready.1 hr).1
        rcases Nat.lt_or_ge i listed.size with h' | h'
        · simp [h'] at h0 ⊢; exact h0
        · simp [Array.getElem?_eq_none h']
      have hnot : ∀ e ∈ oj.after, Region.binds md e = true → e.on ≠ i := fun e he hb heq => by
        have h1 := hall e he hb
        rw [heq, hi0] at h1
        cases h1
      have h2 := wpOp_putIf hoj (hfree j oj hoj hji hjun hnot) (fun cs b => hsel i oi cs b hi) (fun cs b => hsel j oj cs b hoj) hQ hy h1
      have hfree' : ∀ k ok, ops[k]? = some ok → k ≠ i → (listed.setIfInBounds j true).getD k true = false →
          (∀ e ∈ ok.after, Region.binds md e = true → e.on ≠ i) → oi.apart ops ok = true := fun k ok hk hki hun hno => by
        refine hfree k ok hk hki ?_ hno
        by_cases hjk : j = k
        · subst hjk; exact hjun
        · rw [getD_set_ne true hjk] at hun; exact hun
      have hcl' : Ahead md ops i (listed.setIfInBounds j true) := fun b hb => by
        have hjb : j ≠ b := fun e => by subst e; rw [waits_not_ready hj hi0] at hb; cases hb
        rw [getD_set_ne false hjb]
        exact hcl b hb
      refine wpOp_mono (fun a' w' h3 => ?_) h2
      have h4 : S (came B (listed.setIfInBounds j true)) w' := by
        have := h3.2.1
        rwa [Array.setIfInBounds_comm _ _ (Ne.symm hji), came_set hSi] at this
      refine ⟨h4, ih (listed.setIfInBounds j true) a' w' hfree' (ready_mono hr (Ne.symm hji)) hcl' h3.1 h4 ?_⟩
      rw [Array.setIfInBounds_comm _ _ hji]
      exact h3.2.2

/-- Take number i first. -/
theorem g_take {i : Nat} {oi : Oper} {v : Value} {fuel : Nat} {listed : Array Bool} {a : Act} {w : World} (hi : ops[i]? = some oi) (hgd : oi.guard = none)
    (hs : Region.noSelect ops = true) (hf : Region.free .any ops listed i = true) (hr : (Region.ready .any ops listed).contains i = true) (hb : B.contains i = false) (ha : aheadB .any ops i listed = true)
    (hQ : ∀ c a w, Q (.panic c) (a.put oi.dst v) w → Q (.panic c) a w) (hS : S (came B listed) w)
    (hy : ∀ L W, Ahead .any ops i L → S (came B L) W → (execOp a.eval oi).run P W = .ok (.value v) W)
    (h : wpAnyG P .any ops Q B S fuel (listed.setIfInBounds i true) (a.put oi.dst v) w) : wpAnyG P .any ops Q B S (fuel + 1) listed a w :=
  wpAnyG_first hi (Region.noSelect_spec hs) hQ hb fuel listed a w (Region.free_spec hi hf) (by simpa using hr) (ahead_of ha)
    (.inl ⟨by simp [Region.wanted, hgd], fun W ⟨L, hL, hW⟩ => hy L W hL hW⟩) hS h
/-- Take number i first: one that a guard lets by. -/
theorem g_takeG {i : Nat} {oi : Oper} {v : Value} {fuel : Nat} {listed : Array Bool} {a : Act} {w : World} (hi : ops[i]? = some oi) (hw : Region.wanted oi (yielded ops a.tmps) = true)
    (hs : Region.noSelect ops = true) (hf : Region.free .any ops listed i = true) (hr : (Region.ready .any ops listed).contains i = true) (hb : B.contains i = false) (ha : aheadB .any ops i listed = true)
    (hQ : ∀ c a w, Q (.panic c) (a.put oi.dst v) w → Q (.panic c) a w) (hS : S (came B listed) w)
    (hy : ∀ L W, Ahead .any ops i L → S (came B L) W → (execOp a.eval oi).run P W = .ok (.value v) W)
    (h : wpAnyG P .any ops Q B S fuel (listed.setIfInBounds i true) (a.put oi.dst v) w) : wpAnyG P .any ops Q B S (fuel + 1) listed a w :=
  wpAnyG_first hi (Region.noSelect_spec hs) hQ hb fuel listed a w (Region.free_spec hi hf) (by simpa using hr) (ahead_of ha)
    (.inl ⟨hw, fun W ⟨L, hL, hW⟩ => hy L W hL hW⟩) hS h
/-- Number i is not wanted: its guard doesn't let it by. -/
theorem g_skip {i : Nat} {oi : Oper} {fuel : Nat} {listed : Array Bool} {a : Act} {w : World} (hi : ops[i]? = some oi) (hw : Region.wanted oi (yielded ops a.tmps) = false)
    (hs : Region.noSelect ops = true) (hf : Region.free .any ops listed i = true) (hr : (Region.ready .any ops listed).contains i = true) (hb : B.contains i = false) (ha : aheadB .any ops i listed = true)
    (hQ : ∀ c a w, Q (.panic c) (a.put oi.dst undef) w → Q (.panic c) a w) (hS : S (came B listed) w)
    (h : wpAnyG P .any ops Q B S fuel (listed.setIfInBounds i true) (a.put oi.dst undef) w) : wpAnyG P .any ops Q B S (fuel + 1) listed a w :=
  wpAnyG_first hi (Region.noSelect_spec hs) hQ hb fuel listed a w (Region.free_spec hi hf) (by simpa using hr) (ahead_of ha) (.inr ⟨hw, rfl⟩) hS h
theorem wpAnyG_all {rs : List Nat} {fuel : Nat} {listed : Array Bool} {a : Act} {w : World} (hr : Region.ready md ops listed = rs) (hne : rs ≠ [])
    (h : ∀ i ∈ rs, wpOp P ops Q i (fun a' w' => S (came B (listed.setIfInBounds i true)) w' ∧ wpAnyG P md ops Q B S fuel (listed.setIfInBounds i true) a' w') a w) : wpAnyG P md ops Q B S (fuel + 1) listed a w :=
  ⟨fun h0 => absurd (hr ▸ h0) hne, hr ▸ h⟩
theorem wpAnyG_done {listed : Array Bool} {a : Act} {w : World} (hr : Region.ready md ops listed = []) (h : Q .normal a w) :
    ∀ fuel, wpAnyG P md ops Q B S fuel listed a w
  | 0 => ⟨hr, h⟩
  | _ + 1 => ⟨fun _ => h, by rw [hr]; simp⟩
/-- The only one that may come up now (or one that a guard lets by). -/
theorem g_one {i : Nat} {o : Oper} {fuel : Nat} {listed : Array Bool} {a : Act} {w : World}
    (ho : ops[i]? = some o) (hw : Region.wanted o (yielded ops a.tmps) = true) (hr : Region.ready .any ops listed = [i])
    (h : ∀ K : Act → World → Prop, (∀ a' w', S (came B (listed.setIfInBounds i true)) w' → wpAnyG P .any ops Q B S fuel (listed.setIfInBounds i true) a' w' → K a' w') → o.wp P a w K Q) : wpAnyG P .any ops Q B S (fuel + 1) listed a w := by
  refine wpAnyG_all hr (by simp) fun j hj => ?_
  obtain rfl : j = i := by simpa using hj
  unfold wpOp
  simp only [ho]
  rw [if_pos hw]
  exact .inl (h _ fun a' w' hS hh => ⟨hS, hh⟩)
/-- Two may come up now: either is taken. -/
theorem g_two {i j : Nat} {o o' : Oper} {fuel : Nat} {listed : Array Bool} {a : Act} {w : World}
    (hr : Region.ready .any ops listed = [i, j]) (ho : ops[i]? = some o) (hw : Region.wanted o (yielded ops a.tmps) = true) (ho' : ops[j]? = some o') (hw' : Region.wanted o' (yielded ops a.tmps) = true)
    (h : ∀ K : Act → World → Prop, (∀ a' w', S (came B (listed.setIfInBounds i true)) w' → wpAnyG P .any ops Q B S fuel (listed.setIfInBounds i true) a' w' → K a' w') → o.wp P a w K Q)
    (h' : ∀ K : Act → World → Prop, (∀ a' w', S (came B (listed.setIfInBounds j true)) w' → wpAnyG P .any ops Q B S fuel (listed.setIfInBounds j true) a' w' → K a' w') → o'.wp P a w K Q) : wpAnyG P .any ops Q B S (fuel + 1) listed a w := by
  refine wpAnyG_all hr (by simp) fun k hk => ?_
  have hk' : k = i ∨ k = j := by simpa using hk
  rcases hk' with rfl | rfl
  · unfold wpOp
    simp only [ho]
    rw [if_pos hw]
    exact .inl (h _ fun a' w' hS hh => ⟨hS, hh⟩)
  · unfold wpOp
    simp only [ho']
    rw [if_pos hw']
    exact .inl (h' _ fun a' w' hS hh => ⟨hS, hh⟩)
theorem wp_region_heldG {id : Nat} {a : Act} {w : World} (B : List Nat) (S : (Nat → Bool) → World → Prop) (hm : P.follows .mixedOrders = true)
    (h : wpAnyG P .any ops Q B S ops.size (Array.replicate ops.size false) a w.drew) : (Code.region id ops true).wp P Q a w :=
  wp_region_any hm (wpAny_of_heldG _ _ _ _ h)
theorem wpIn_region_heldG {n l : Nat} {id : Nat} {a : Act} {w : World} (B : List Nat) (S : (Nat → Bool) → World → Prop) (hm : P.follows .mixedOrders = true) (hd : noDefer ops = true) (hL : ¬ LetsOut Q)
    (h : wpAnyG P .any ops Q B S ops.size (Array.replicate ops.size false) a w.drew) : (Code.region id ops true).wpIn (Fence.wide.inRound l) n P Q a w :=
  wpIn_region_any hm (wpAny_in hd hL _ _ _ _ (wpAny_of_heldG _ _ _ _ h))
/-- What holds behind a region that doesn't panic. -/
def noPanic (Q : Exit → Act → World → Prop) : Exit → Act → World → Prop
  | .panic _, _, _ => False
  | e, a, w => Q e a w
theorem noPanic_out {Q : Exit → Act → World → Prop} : ∀ e a w, noPanic Q e a w → Q e a w
  | .normal, _, _, h => h
  | .ret, _, _, h => h
  | .exit _, _, _, h => h
  | .goto _, _, _, h => h
  | .outgrown, _, _, h => h
theorem noPanic_normal {Q : Exit → Act → World → Prop} {a : Act} {w : World} (h : Q .normal a w) : noPanic Q .normal a w := h
/-- In a function that defers. -/
theorem wp_region_heldN {id : Nat} {a : Act} {w : World} (B : List Nat) (S : (Nat → Bool) → World → Prop) (hm : P.follows .mixedOrders = true)
    (h : wpAnyG P .any ops (noPanic Q) B S ops.size (Array.replicate ops.size false) a w.drew) : (Code.region id ops true).wp P Q a w :=
  wp_mono (wp_region_heldG B S hm h) noPanic_out
/-- A cell of a block that is known whole. -/
theorem Blk.at_ {w : World} {g : Nat} {t : TypeId} {cs : Array Value} (h : Blk w g t cs) (k : Nat) {v : Value} (hk : cs[k]? = some v) : w.cell? ⟨g, k, none⟩ = some v := (h.cell k).trans hk
theorem Blk.farN {w : World} {g : Nat} {t : TypeId} {cs : Array Value} (h : Blk w g t cs) {b o : Nat} (hne : g ≠ b) (u : Value) : Blk (w.setCell ⟨b, o, none⟩ u) g t cs := h.far hne u
theorem own_form {w : World} {base : Nat} {e : TypeId} {size n : Nat} {v : Value} {xs : List Value} (h : w.ownsRow base e size v n xs) : ∃ A c, v = .slice A n c := by
  rcases h.2 with ⟨rfl, rfl⟩ | ⟨g, cap, cur, rfl, _⟩
  · exact ⟨_, _, rfl⟩
  · exact ⟨_, _, rfl⟩
theorem own_row {w : World} {base : Nat} {e : TypeId} {size n : Nat} {v : Value} {xs : List Value} (h : w.ownsRow base e size v n xs) {g : Nat} (hg : v.ownBlock = some g) : base ≤ g ∧ ∃ cs, Blk w g e cs := by
  rcases h.2 with ⟨rfl, _⟩ | ⟨g', cap, cur, rfl, hb, hh, _⟩
  · simp [Value.ownBlock] at hg
  · have : g' = g := by simpa [Value.ownBlock] using hg
    subst this
    exact ⟨hb, cur, hh⟩
theorem own_keep {w w' : World} {base : Nat} {e : TypeId} {size n : Nat} {v : Value} {xs : List Value} (h : w.ownsRow base e size v n xs) (hk : ∀ g, v.ownBlock = some g → w'.heap[g]? = w.heap[g]?) : w'.ownsRow base e size v n xs := by
  obtain ⟨h1, h2⟩ := h
  refine ⟨h1, ?_⟩
  rcases h2 with h2 | ⟨g, cap, cur, rfl, hg, hh, r⟩
  · exact .inl h2
  · exact .inr ⟨g, cap, cur, rfl, hg, (hk g (by simp [Value.ownBlock])).trans hh, r⟩
theorem own_far {w : World} {base : Nat} {e : TypeId} {size n : Nat} {v : Value} {xs : List Value} (h : w.ownsRow base e size v n xs) {p : Addr} (hp : v.ownBlock ≠ some p.block) (u : Value) : (w.setCell p u).ownsRow base e size v n xs :=
  own_keep h fun g hg => heap_setCell_other w p g u (fun e => hp (by rw [hg, e]))
end
theorem Bytes.grow {w w' : World} {A : Option Addr} {l : List UInt8} (h : Bytes w w.heap.size A l) (hb : Below w.heap.size w w') : Bytes w' w'.heap.size A l := (Row.below h hb).more hb.size
/-- Rows of the call's own. -/
theorem own_bytes {w : World} {base : Nat} {e : TypeId} {v : Value} {n : Nat} {l : List UInt8} (h : w.ownsRow base e 1 v n (bs l)) : ∃ A c, v = .slice A n c ∧ n ≤ c ∧ n = l.length ∧ Bytes w w.heap.size A l := by
  obtain ⟨A, c, rfl, hr⟩ := own_slice h
  have hl := h.1
  rw [bs_length, Nat.mul_one] at hl
  refine ⟨A, c, rfl, ?_, hl.symm, hr⟩
  rcases h.2 with ⟨h1, _⟩ | ⟨g, cap, cur, h1, _, _, hc, _⟩
  · simp only [Value.slice.injEq] at h1; omega
  · simp only [Value.slice.injEq] at h1; omega
theorem Bytes.part {w : World} {B : Nat} {b o : Nat} {l : List UInt8} (h : Bytes w B (some ⟨b, o, none⟩) l) (i j : Nat) : Bytes w B (some ⟨b, o + i, none⟩) ((l.take j).drop i) := by
  unfold Bytes; rw [show bs ((l.take j).drop i) = ((bs l).take j).drop i by simp [bs, List.map_drop, List.map_take]]
  exact Row.drop (h.take _) (fun _ _ _ h => by cases h; rfl)
theorem Bytes.head {w : World} {B : Nat} {A : Option Addr} {l : List UInt8} (h : Bytes w B A l) (j : Nat) : Bytes w B A (l.take j) := by
  unfold Bytes; rw [show bs (l.take j) = (bs l).take j by simp [bs, List.map_take]]
  exact h.take _
end Go.Proofs.Ytpohefpiidlnjaa.Wd
