/-
  Four rows of the caller's own beside a disk; rows of bytes, and of truths, as arguments; what begins answers.
-/
import Derived.Test.YtgajgjijnpigoaaWordsArg
import Derived.Test.YtgajgjijnpigoaaDiskArg
import Derived.Test.YtgajgjijnpigoaaDiskAwake
import Derived.Test.YtgajgjijnpigoaaDiskPl
import Derived.Deep.DeepCutAuto
import Derived.Deep.Slices
namespace Go.Proofs.Ytgajgjijnpigoaa.Dk
set_option linter.unusedVariables false
open Go Go.RowKit Go.Shelf Go.Proofs Go.Proofs.Ytgajgjijnpigoaa Go.Proofs.Ytgajgjijnpigoaa.Wd Go.ChangeShapes Go.WideShapes

/-- A row of the caller's own, beside a disk. -/
def Own (W : World) (base : Nat) (F : Nat → Prop) (v : Value) (l : List UInt8) : Prop := W.ownsRow base 5 1 v l.length (bs l) ∧ ∀ r, v.ownBlock = some r → ¬ F r
structure Four (W : World) (base : Nat) (F : Nat → Prop) (v : Nat → Value) (l : Nat → List UInt8) : Prop where
  own : ∀ i, i < 4 → Own W base F (v i) (l i)
  apart : ∀ i j, i < 4 → j < 4 → i ≠ j → ∀ r, (v i).ownBlock = some r → (v j).ownBlock ≠ some r
section
variable {W W' : World} {base b : Nat} {F F' G : Nat → Prop} {g : Nat} {s : DS} {v : Nat → Value} {l l' : Nat → List UInt8}
theorem Four.re (h : Four W base F v l) (e : ∀ i, i < 4 → l i = l' i) : Four W base F v l' := ⟨fun i hi => e i hi ▸ h.own i hi, h.apart⟩
theorem Four.lt (h : Four W base F v l) {i : Nat} (hi : i < 4) {r : Nat} (hr : (v i).ownBlock = some r) : base ≤ r ∧ r < W.heap.size := by
  obtain ⟨h1, cs, hc⟩ := own_row (h.own i hi).1 hr
  exact ⟨h1, hc.lt⟩
theorem Four.next (h : Four W base F v l) (hf : Fr F W W') (hF : ∀ k, F' k → F k ∨ W.heap.size ≤ k) : Four W' base F' v l :=
  ⟨fun i hi => ⟨own_keep (h.own i hi).1 fun r hr => hf.block r (h.lt hi hr).2 ((h.own i hi).2 r hr), fun r hr hf' => by
    rcases hF r hf' with h1 | h1
    · exact (h.own i hi).2 r hr h1
    · have := (h.lt hi hr).2; omega⟩, h.apart⟩
theorem Four.below (h : Four W base F v l) (hb : Below W.heap.size W W') : Four W' base F v l :=
  ⟨fun i hi => ⟨own_belowW (h.own i hi).1 hb, (h.own i hi).2⟩, h.apart⟩
/-- Another block, of another type, is written. -/
theorem Four.far (h : Four W base F v l) {k : Nat} {t : TypeId} {cs : Array Value} (hk : Blk W k t cs) (ht : t ≠ 5) (hf : Fr (fun j => j = k) W W') : Four W' base F v l :=
  ⟨fun i hi => ⟨own_keep (h.own i hi).1 fun r hr => by
    obtain ⟨_, cs', hc⟩ := own_row (h.own i hi).1 hr
    exact hf.block r hc.lt (fun e => by cases e; exact Blk.ne_ hk hc ht rfl), (h.own i hi).2⟩, h.apart⟩
theorem Four.grown (h : Four W base F v l) {k : Nat} (hk : k < 4) {v' : Value} {n : Nat} {b : List UInt8} (ho : W'.ownsRow base 5 1 v' n (bs b)) (hn : n = b.length) (hg : W.grownBy W' (v k).ownBlock) (hv : v'.ownBlock = (v k).ownBlock ∨ v'.ownBlock = some W.heap.size) (hF : ∀ x, F x → x < W.heap.size) : Four W' base F (upd v k v') (upd l k b) := by
  subst hn
  refine ⟨fun i hi => ?_, fun i j hi hj hij r hr => ?_⟩
  · by_cases e : i = k
    · subst e
      rw [upd_eq, upd_eq]
      refine ⟨ho, fun r hr hf => ?_⟩
      rcases hv with h1 | h1
      · exact (h.own i hi).2 r (h1 ▸ hr) hf
      · rw [h1] at hr; cases hr; have := hF _ hf; omega
    · rw [upd_ne e, upd_ne e]
      exact ⟨own_keep (h.own i hi).1 fun r hr => hg.block r (h.lt hi hr).2 (fun e2 => h.apart i k hi hk e r hr e2.symm), (h.own i hi).2⟩
  · by_cases e : i = k
    · subst e
      rw [upd_eq] at hr
      rw [upd_ne (fun e => hij e.symm)]
      rcases hv with h1 | h1
      · exact h.apart i j hi hj hij r (h1 ▸ hr)
      · rw [h1] at hr; cases hr; intro e2; have := (h.lt hj e2).2; omega
    · rw [upd_ne e] at hr
      by_cases e2 : j = k
      · subst e2
        rw [upd_eq]
        rcases hv with h1 | h1
        · rw [h1]; exact h.apart i j hi hj hij r hr
        · rw [h1]; intro e3; cases e3; have := (h.lt hi hr).2; omega
      · rw [upd_ne e2]; exact h.apart i j hi hj hij r hr
theorem Four.fresh (h : Four W base F v l) (hb : Below W.heap.size W W') {k : Nat} (hk : k < 4) {v' : Value} {n : Nat} {b : List UInt8} (ho : W'.ownsRow base 5 1 v' n (bs b)) (hn : n = b.length) (hv : ∀ r, v'.ownBlock = some r → W.heap.size ≤ r) (hF : ∀ x, F x → x < W.heap.size) : Four W' base F (upd v k v') (upd l k b) := by
  subst hn
  refine ⟨fun i hi => ?_, fun i j hi hj hij r hr => ?_⟩
  · by_cases e : i = k
    · subst e
      rw [upd_eq, upd_eq]
      exact ⟨ho, fun r hr hf => by have := hv r hr; have := hF _ hf; omega⟩
    · rw [upd_ne e, upd_ne e]
      exact (h.below hb).own i hi
  · by_cases e : i = k
    · subst e
      rw [upd_eq] at hr
      rw [upd_ne (fun e => hij e.symm)]
      intro e2; have := (h.lt hj e2).2; have := hv r hr; omega
    · rw [upd_ne e] at hr
      by_cases e2 : j = k
      · subst e2
        rw [upd_eq]
        intro e3; have := hv r e3; have := (h.lt hi hr).2; omega
      · rw [upd_ne e2]; exact h.apart i j hi hj hij r hr
theorem Four.form (h : Four W base F v l) {i : Nat} (hi : i < 4) : ∃ A c, v i = .slice A (l i).length c ∧ (l i).length ≤ c ∧ c ≤ maxLen ∧ Bytes W W.heap.size A (l i) := own_read (h.own i hi).1
theorem Four.notblk (h : Four W base F v l) {i : Nat} (hi : i < 4) {k : Nat} {t : TypeId} {cs : Array Value} (hk : Blk W k t cs) (ht : t ≠ 5) : (v i).ownBlock ≠ some k := fun e => by
  obtain ⟨_, cs', hc⟩ := own_row (h.own i hi).1 e
  exact Blk.ne_ hk hc ht rfl
theorem Four.none_ (W : World) (base : Nat) (F : Nat → Prop) : Four W base F (fun _ => .slice none 0 0) (fun _ => []) :=
  ⟨fun i _ => ⟨own_nil W base _, fun r hr => by simp [Value.ownBlock] at hr⟩, fun i j _ _ _ r hr => by simp [Value.ownBlock] at hr⟩
end
/-- All bytes, and the safe ones. -/
def fl (al : Nat → List UInt8) (sf : Nat → Nat) : Nat → List UInt8 := fun j => if j < 2 then al j else (al (j - 2)).take (sf (j - 2))
theorem fl_lo (al : Nat → List UInt8) (sf : Nat → Nat) {k : Nat} (hk : k < 2) : fl al sf k = al k := if_pos hk
theorem fl_hi (al : Nat → List UInt8) (sf : Nat → Nat) (k : Nat) : fl al sf (2 + k) = (al k).take (sf k) := by unfold fl; rw [if_neg (by omega), show 2 + k - 2 = k by omega]
theorem fl_app {al : Nat → List UInt8} {sf : Nat → Nat} {k : Nat} (hk : k < 2) (b : List UInt8) (hs : ∀ i, i < 2 → sf i ≤ (al i).length) {i : Nat} (hi : i < 4) : upd (fl al sf) k (al k ++ b) i = fl (upd al k (al k ++ b)) sf i := by
  by_cases e : i = k
  · subst e; rw [upd_eq, fl_lo _ _ hk, upd_eq]
  · rw [upd_ne e]
    by_cases h2 : i < 2
    · rw [fl_lo _ _ h2, fl_lo _ _ h2, upd_ne e]
    · obtain ⟨j, rfl⟩ : ∃ j, i = 2 + j := ⟨i - 2, by omega⟩
      rw [fl_hi, fl_hi]
      by_cases e2 : j = k
      · subst e2; rw [upd_eq, List.take_append_of_le_length (hs j hk)]
      · rw [upd_ne e2]
theorem fl_sync {al : Nat → List UInt8} {sf : Nat → Nat} {k : Nat} (hk : k < 2) {i : Nat} (hi : i < 4) : upd (fl al sf) (2 + k) (al k) i = fl al (upd sf k (al k).length) i := by
  by_cases e : i = 2 + k
  · subst e; rw [upd_eq, fl_hi, upd_eq, List.take_length]
  · rw [upd_ne e]
    by_cases h2 : i < 2
    · rw [fl_lo _ _ h2, fl_lo _ _ h2]
    · obtain ⟨j, rfl⟩ : ∃ j, i = 2 + j := ⟨i - 2, by omega⟩
      rw [fl_hi, fl_hi, upd_ne (by omega)]
theorem pair_get (v : Nat → Value) {k : Nat} (hk : k < 2) : #[v 0, v 1][k]? = some (v k) := by
  rcases (by omega : k = 0 ∨ k = 1) with rfl | rfl <;> rfl
theorem pair_get2 (v : Nat → Value) {k : Nat} (hk : k < 2) : #[v 2, v 3][k]? = some (v (2 + k)) := by
  rcases (by omega : k = 0 ∨ k = 1) with rfl | rfl <;> rfl
theorem pair_lo (v : Nat → Value) {k : Nat} (hk : k < 2) (u : Value) : #[v 0, v 1].setIfInBounds k u = #[upd v k u 0, upd v k u 1] ∧ #[v 2, v 3] = #[upd v k u 2, upd v k u 3] := by
  rcases (by omega : k = 0 ∨ k = 1) with rfl | rfl <;> exact ⟨rfl, rfl⟩
theorem pair_hi (v : Nat → Value) {k : Nat} (hk : k < 2) (u : Value) : #[v 2, v 3].setIfInBounds k u = #[upd v (2 + k) u 2, upd v (2 + k) u 3] ∧ #[v 0, v 1] = #[upd v (2 + k) u 0, upd v (2 + k) u 1] := by
  rcases (by omega : k = 0 ∨ k = 1) with rfl | rfl <;> exact ⟨rfl, rfl⟩

/-- Rows of bytes, as they lie. -/
def BRows (w : World) (B : Nat) (A : Option Addr) (ls : List (List UInt8)) : Prop :=
  ∀ j (h : j < ls.length), ∃ b off A' c', A = some ⟨b, off, none⟩ ∧ b < B ∧ w.cell? ⟨b, off + j, none⟩ = some (.slice A' ls[j].length c') ∧ ls[j].length ≤ c' ∧ c' ≤ maxLen ∧ Bytes w B A' ls[j]
theorem BRows.below {w W : World} {B : Nat} {A : Option Addr} {ls : List (List UInt8)} (h : BRows w B A ls) (hb : Below B w W) : BRows W B A ls := fun j hj => by
  obtain ⟨b, off, A', c', e, hb1, hc, h1, h2, hr⟩ := h j hj
  exact ⟨b, off, A', c', e, hb1, (hb.cell (p := ⟨b, _, none⟩) hb1).trans hc, h1, h2, Row.below hr hb⟩
section
variable {H : Type} {enc : TypeId × Value → H} {W : World}
theorem trod_bytes {base : Nat} {spare : Nat → Bool} {held : Bool} {fuel : Nat} {v : Value} {x : DataW H × List MemPlace} (hs : ∀ b, spare b = true) (h : DataW.trod enc Try.prog W base spare held fuel 29 [v] = some x) :
    ∃ A c l, v = .slice A l.length c ∧ l.length ≤ c ∧ c ≤ maxLen ∧ Bytes W W.heap.size A l := by
  rcases open_ints Try.underlying29 Try.underlying5 (by kernel_rfl) h with ⟨hcs, _⟩ | ⟨a, l, c, zs, hcs, _, hl, hm, hz, _, hcell, hwz⟩
  · simp at hcs
    subst hcs
    exact ⟨none, 0, [], rfl, Nat.le_refl _, by simp [maxLen], Row.nil⟩
  · simp at hcs
    subst hcs
    rw [if_pos (hs _)] at hz
    have w2 : (some a = none ∧ l = 0 ∧ c = 0 ∧ zs = []) ∨ ∃ y, some a = some y ∧ l ≤ c ∧ c ≤ maxLen ∧ zs.length = c ∧ (∀ i, i < zs.length → W.cell? (y.add i) = some (.int .u8 (zs.getD i 0))) ∧ ∀ n ∈ zs, (Lit.int .u8 n).wf = true := .inr ⟨a, rfl, hl, hm, by simpa using hz, hcell, hwz⟩
    obtain ⟨b, rfl, h1, h2, h3⟩ := bytes_arg W.heap.size w2 (by intro x hx hlen; cases hx; exact slice_arg_lt w2 hlen)
    exact ⟨_, _, b, rfl, h1, h2, h3⟩
theorem open_brows {base : Nat} {spare : Nat → Bool} {held : Bool} {fuel : Nat} {v : Value} {x : DataW H × List MemPlace} (hs : ∀ b, spare b = true) (h : DataW.trod enc Try.prog W base spare held fuel 22 [v] = some x) :
    ∃ (ls : List (List UInt8)) (A : Option Addr) (c : Nat), v = .slice A ls.length c ∧ ls.length ≤ c ∧ c ≤ maxLen ∧ BRows W W.heap.size A ls := by
  rcases Deep.open_slice1 Try.underlying22 (by kernel_rfl) h with ⟨hcs, _⟩ | ⟨a, len, cap, m, n, V, D, Pl, hcs, _, hl, hm, hmm, _, hx⟩
  · simp at hcs
    subst hcs
    exact ⟨[], none, 0, rfl, Nat.le_refl _, by simp [maxLen], fun j hj => by simp at hj⟩
  · simp at hcs
    subst hcs
    rw [if_pos (hs _)] at hmm
    subst hmm
    obtain ⟨q, hq⟩ := Deep.choose_lt (n := len) (α := List UInt8 × Option Addr × Nat) (p := fun i s => W.cell? (a.add i) = some (.slice s.2.1 s.1.length s.2.2) ∧ s.1.length ≤ s.2.2 ∧ s.2.2 ≤ maxLen ∧ Bytes W W.heap.size s.2.1 s.1) (fun i hi => by
      obtain ⟨g0, g1⟩ := hx i (by omega)
      obtain ⟨A', c', l', hl', h2, h3, h4⟩ := trod_bytes hs g1
      exact ⟨(l', A', c'), by rw [g0, hl'], h2, h3, h4⟩)
    refine ⟨(List.range len).map fun i => (q i).1, some a, _, by simp, by simpa using hl, hm, fun j hj => ?_⟩
    have hj' : j < len := by simpa using hj
    obtain ⟨h1, h2, h3, h4⟩ := hq j hj'
    obtain ⟨b, off, spot⟩ := a
    have hspot : spot = none := by
      obtain ⟨g1, _⟩ := hq 0 (by omega)
      have h0 := World.cell?_spot g1
      simpa [Addr.add] using h0
    subst hspot
    have hb := block_lt_of_cell h1
    refine ⟨b, off, (q j).2.1, (q j).2.2, rfl, by rw [Addr.add_lit] at hb; exact hb, ?_, ?_, h3, ?_⟩
    · simpa [Addr.add_lit] using h1
    · simpa using h2
    · simpa using h4
theorem open_bools {base : Nat} {spare : Nat → Bool} {held : Bool} {fuel : Nat} {v : Value} {x : DataW H × List MemPlace} (hs : ∀ b, spare b = true) (h : DataW.trod enc Try.prog W base spare held fuel 23 [v] = some x) :
    ∃ (ls : List Bool) (A : Option Addr) (c : Nat), v = .slice A ls.length c ∧ ls.length ≤ c ∧ c ≤ maxLen ∧ Row W W.heap.size A (ls.map Value.bool) := by
  rcases Deep.open_slice1 Try.underlying23 (by kernel_rfl) h with ⟨hcs, _⟩ | ⟨a, len, cap, m, n, V, D, Pl, hcs, _, hl, hm, hmm, _, hx⟩
  · simp at hcs
    subst hcs
    exact ⟨[], none, 0, rfl, Nat.le_refl _, by simp [maxLen], fun j hj => by simp at hj⟩
  · simp at hcs
    subst hcs
    rw [if_pos (hs _)] at hmm
    subst hmm
    obtain ⟨q, hq⟩ := Deep.choose_lt (n := len) (α := Bool) (p := fun i s => W.cell? (a.add i) = some (.bool s)) (fun i hi => by
      obtain ⟨g0, g1⟩ := hx i (by omega)
      obtain ⟨y, hy, _⟩ := DataW.trod_bool Try.underlying4 g1
      simp at hy
      exact ⟨y, by rw [g0, hy]⟩)
    refine ⟨(List.range len).map q, some a, _, by simp, by simpa using hl, hm, fun j hj => ?_⟩
    have hj' : j < len := by simpa using hj
    have h1 := hq j hj'
    obtain ⟨b, off, spot⟩ := a
    have hspot : spot = none := by
      have h0 := World.cell?_spot (hq 0 (by omega))
      simpa [Addr.add] using h0
    subst hspot
    have hb := block_lt_of_cell h1
    refine ⟨b, off, rfl, by rw [Addr.add_lit] at hb; exact hb, ?_⟩
    simpa [Addr.add_lit] using h1
end
set_option maxRecDepth 100000 in
set_option maxHeartbeats 1000000 in
/-- Is one the begin of the other? -/
theorem begins_any (A B : Option Addr) (c d : Nat) (l k : List UInt8) (n m : Nat) (hn : n = l.length) (hm : m = k.length) (hmd : m ≤ d) (w : World) (hI : Bytes w w.heap.size A l) (hJ : Bytes w w.heap.size B k) :
    Calls Try.prog 16 #[.slice A n c, .slice B m d] w fun e w' => e = .returned (.bool (l == k.take l.length)) ∧ w = w' := by
  have HI := Lib.hid hI
  have HK := Lib.hid hm
  have HN := Lib.hid hn
  have hmd' : (m : Int) ≤ (d : Int) := by omega
  clear hI hm hn
  go_enter Try.func16, Try.ntmps16
  by_cases hlt : m < n
  · have u1 : (m : Int) < (n : Int) := by omega
    go_wp2_with fail
    refine Calls.mono (same_any _ _ _ _ _ (k.take l.length) n m HN.out (by have := HK.out; have := HN.out; rw [List.length_take]; omega) _ HI.out (hJ.head _)) ?_
    rintro e y1 ⟨rfl, rfl⟩
    go_wp2_with fail
    go_ret
    exact ⟨rfl, rfl⟩
  · have u1 : ¬ (m : Int) < (n : Int) := by omega
    have u2 : (n : Int) ≤ (d : Int) := by omega
    go_wp2_with fail
    refine Calls.mono (same_any _ _ _ _ _ (k.take l.length) n n HN.out (by have := HK.out; have := HN.out; rw [List.length_take]; omega) _ HI.out (hJ.head _)) ?_
    rintro e y1 ⟨rfl, rfl⟩
    go_wp2_with fail
    go_ret
    exact ⟨rfl, rfl⟩
end Go.Proofs.Ytgajgjijnpigoaa.Dk
