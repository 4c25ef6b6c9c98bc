/-
  Words and walks, one behind the other: Words, WordsRound, WordsApp, WordsRange, WordsHeld, WordsMore, WordsRoundApp, WordsMap, WordsArg.
-/
import Derived.WalkKit
import Derived.WalkLawsBesides
import Derived.WalkSpells
import Derived.Lib.Hide
import Derived.Laws.CopyOwn
import Derived.StillTailTactics
import Derived.Deep.Draws
import Derived.OrdersHeld
import Derived.Deep.AppendLies
import Derived.RangeFuncNested
import Derived.RangeFuncCalls
import Derived.OrdersIn
import Derived.OwnWalkIn
import Derived.Maps.AppendAt
import Derived.RegionTactic
import Derived.OwnWalk
import Derived.Laws.BytesArg
import Derived.OpenShut
import Derived.RangeFuncLeaves
import Derived.Maps.OwnSet
import Derived.Maps.OwnOps
import Derived.ProofKit
namespace Go.Proofs.Ytelplccbcbegkaa.Wd
open Go Go.RowKit

/-- A block that is known whole. -/
def Blk (w : World) (g : Nat) (t : TypeId) (cs : Array Value) : Prop := w.heap[g]? = some (.cells cs t (0, 0))
section
variable {w w' : World} {g B : Nat} {t : TypeId} {cs : Array Value}
theorem Blk.out (h : Blk w g t cs) : w.heap[g]? = some (.cells cs t (0, 0)) := h
theorem Blk.below (h : Blk w g t cs) (hb : Below B w w') (hg : g < B) : Blk w' g t cs := (hb.block g hg).trans h
theorem Blk.lt (h : Blk w g t cs) : g < w.heap.size := (Array.getElem?_eq_some_iff.1 h).1
theorem Blk.cell (h : Blk w g t cs) (i : Nat) : w.cell? ⟨g, i, none⟩ = cs[i]? := cell_of_row w g i cs t (0, 0) h
theorem Blk.frozen (h : Blk w g t cs) (i : Nat) : w.frozen? ⟨g, i, none⟩ = false := frozen_of_row w g i cs t h
theorem Blk.set_ (h : Blk w g t cs) (i : Nat) (u : Value) : Blk (w.setCell ⟨g, i, none⟩ u) g t (cs.setIfInBounds i u) := heap_setCell_same w g i cs t u h
theorem Blk.far (h : Blk w g t cs) {p : Addr} (hp : g ≠ p.block) (u : Value) : Blk (w.setCell p u) g t cs := (heap_setCell_other w p g u hp).trans h
theorem Blk.drew (h : Blk w g t cs) : Blk w.drew g t cs := h
theorem Blk.drewN (h : Blk w g t cs) (n : Nat) : Blk (w.drewN n) g t cs := h
theorem Blk.alloc (h : Blk w g t cs) (o : Obj) : Blk (w.alloc o) g t cs := (Below.heap_alloc w o g h.lt).trans h
theorem Blk.new_ (w : World) (t : TypeId) (cs : Array Value) {n : Nat} (hn : n = w.heap.size) : Blk (w.alloc (.cells cs t)) n t cs := by subst hn; exact heap_alloc_new w _
theorem Blk.row (h : Blk w g t cs) (ds : Array Value) : Blk (w.setRow g ds) g t ds := setRow_heap w g cs ds t _ h
theorem Blk.rowFar {k : Nat} (h : Blk w g t cs) (hk : g ≠ k) (ds : Array Value) : Blk (w.setRow k ds) g t cs := (setRow_other w k g ds hk).trans h
theorem Blk.grown {row : Option Nat} (h : Blk w g t cs) (hb : w.grownBy w' row) (hg : some g ≠ row) : Blk w' g t cs := (hb.block g h.lt hg).trans h
theorem Blk.ne_ {g' : Nat} {t' : TypeId} {cs' : Array Value} (h : Blk w g t cs) (h' : Blk w g' t' cs') (hne : t ≠ t') : g ≠ g' := by
  rintro rfl
  unfold Blk at h h'
  rw [h] at h'
  injection h' with h'
  injection h' with _ ht
  exact hne ht
theorem own_blk_ne {base : Nat} {e : TypeId} {size n : Nat} {v : Value} {xs : List Value} (h : w.ownsRow base e size v n xs) (hg : Blk w g t cs) (hne : e ≠ t) : v.ownBlock ≠ some g := by
  rcases h.2 with ⟨rfl, _⟩ | ⟨g', cap, cur, rfl, _, hh, _⟩
  · simp [Value.ownBlock]
  · intro he
    have : g' = g := by simpa [Value.ownBlock] using he
    subst this
    exact Blk.ne_ (t := e) hh hg hne rfl
end

/-- A whole row loaded, in a region that only reads. -/
theorem wpStill_load_row {P : Program} {ops : Array Oper} {rest : List Oper} {o : Oper} {a : Act} {w : World} {Q : Act → Prop} (hgd : o.guard = none) (ty : TypeId) (x : Operand) (ho : o.op = .load ty x)
    (g : Nat) (hx : a.eval x = .pointer (some ⟨g, 0, none⟩)) (t : TypeId) (cs : Array Value) (fr : Nat × Nat) (d : TypeDesc) (hg : w.heap[g]? = some (.cells cs t fr))
    (hu : P.underlying ty = some d) (hd : (match d with | .struct _ | .array _ _ => true | _ => false) = true) (hi : (P.info? ty).map (·.size) = some cs.size)
    (h : wpStill P ops w Q rest (a.put o.dst (.agg cs))) : wpStill P ops w Q (o :: rest) a := by
  refine wpStill_step fun K hK => ?_
  have hw : Region.wanted o (yielded ops a.tmps) = true := by simp [Region.wanted, hgd]
  rw [if_pos hw]
  unfold Oper.still execOp
  simp only [ho, hx, Instr.loadAt, Instr.sureAddr, Sem.run_bind, Sem.run_pure, Result.andThen_ok, run_loadVar_row w g t ty cs fr d hg hu hd hi]
  exact ⟨rfl, hK _ h⟩

/-- A whole row loaded, in a region whose order is drawn: it may be taken first. -/
theorem yields_load_row {P : Program} {ops : Array Oper} {S : World → Prop} {o : Oper} {a : Act} (hgd : o.guard = none) (ty : TypeId) (x : Operand) (ho : o.op = .load ty x)
    (g : Nat) (hx : a.eval x = .pointer (some ⟨g, 0, none⟩)) (t : TypeId) (cs : Array Value) (fr : Nat × Nat) (d : TypeDesc) (hg : ∀ w, S w → w.heap[g]? = some (.cells cs t fr))
    (hu : P.underlying ty = some d) (hd : (match d with | .struct _ | .array _ _ => true | _ => false) = true) (hi : (P.info? ty).map (·.size) = some cs.size) :
    YieldsIf P ops S o (.agg cs) a := by
  refine .inl ⟨by simp [Region.wanted, hgd], fun w hS => ?_⟩
  unfold execOp
  simp only [ho, hx, Instr.loadAt, Instr.sureAddr, Sem.run_bind, Sem.run_pure, Result.andThen_ok, run_loadVar_row w g t ty cs fr d (hg w hS) hu hd hi]
/-- An operation of the region that reads no memory, or reads what S tells. -/
theorem yields_of {P : Program} {ops : Array Oper} {S : World → Prop} {o : Oper} {a : Act} {v : Value} (hgd : o.guard = none) (h : ∀ w, S w → (execOp a.eval o).run P w = .ok (.value v) w) : YieldsIf P ops S o v a :=
  .inl ⟨by simp [Region.wanted, hgd], h⟩
/-- Take number i first: it yields v wherever S holds. -/
theorem held_take {P : Program} {ops : Array Oper} {Q : Exit → Act → World → Prop} {S : World → Prop} {i : Nat} {oi : Oper} {v : Value} {fuel : Nat} {listed : Array Bool} {a : Act} {w : World} (hi : ops[i]? = some oi) (hgd : oi.guard = none)
    (hs : Region.noSelect ops = true) (hf : Region.free .any ops listed i = true) (hr : (Region.ready .any ops listed).contains i = true)
    (hQ : ∀ c a w, Q (.panic c) (a.put oi.dst v) w → Q (.panic c) a w) (hS : S w) (hy : ∀ W, S W → (execOp a.eval oi).run P W = .ok (.value v) W)
    (h : wpAnyH P .any ops Q S fuel (listed.setIfInBounds i true) (a.put oi.dst v) w) : wpAnyH P .any ops Q S (fuel + 1) listed a w :=
  wpAnyH_take hi hs hf hr hQ (yields_of hgd hy) hS h
/-- The last operations, one by one in the text's order, when nothing else may come up. -/
theorem held_one {P : Program} {ops : Array Oper} {Q : Exit → Act → World → Prop} {S : World → Prop} {i : Nat} {o : Oper} {fuel : Nat} {listed : Array Bool} {a : Act} {w : World}
    (ho : ops[i]? = some o) (hgd : o.guard = none) (hr : Region.ready .any ops listed = [i])
    (h : ∀ K : Act → World → Prop, (∀ a' w', S w' → wpAnyH P .any ops Q S fuel (listed.setIfInBounds i true) a' w' → K a' w') → o.wp P a w K Q) : wpAnyH P .any ops Q S (fuel + 1) listed a w := by
  refine wpAnyH_all hr (by simp) fun j hj => ?_
  obtain rfl : j = i := by simpa using hj
  unfold wpOp
  simp only [ho]
  rw [if_pos (by simp [Region.wanted, hgd])]
  exact .inl (h _ fun a' w' hS hh => ⟨hS, hh⟩)

/-- A whole row stored. -/
theorem wpList_put_row {P : Program} {ops : Array Oper} {rest : List Oper} {o : Oper} {a : Act} {w : World} {Q : Exit → Act → World → Prop} (hgd : o.guard = none) (hd : o.dst = none) (ty : TypeId) (x v : Operand) (ho : o.op = .store ty x v)
    (g : Nat) (hx : a.eval x = .pointer (some ⟨g, 0, none⟩)) (t : TypeId) (old cs : Array Value) (hv : a.eval v = .agg cs) (hg : Blk w g t old)
    (hi : (P.info? ty).map (·.size) = some cs.size) (hs : old.size = cs.size) (h1 : ∀ u ∈ cs.toList, u.oneCell' = true)
    (h : wpList P ops Q rest a (w.setRow g cs)) : wpList P ops Q (o :: rest) a w := by
  have h : wpList P ops Q rest (a.put o.dst undef) (w.setRow g cs) := by rw [hd]; exact h
  refine wpList_plain hgd fun K hK => ?_
  unfold Oper.wp execOp
  have hrun := run_storeVar_row (P := P) w g t ty old cs hg hi hs (by rw [Array.all_eq_true']; exact fun u hu => h1 u (by simpa using hu))
  simp only [ho, hx, hv, Instr.storeAt, Instr.sureAddr, Sem.run_bind, Sem.run_pure, Result.andThen_ok, hrun]
  exact hK _ _ h

/-- Three results, the first of them a row that lies in memory. -/
theorem results_cell_row3 {P : Program} {fn : Func} {p t u : Tmp} {ty : TypeId} (h : fn.results = #[.cell p ty, .tmp t, .tmp u]) (tmps : Array Value) (w : World) (g : Nat) (te : TypeId) (cs : Array Value) (fr : Nat × Nat) (d : TypeDesc)
    (hp : tmps.getD p undef = .pointer (some ⟨g, 0, none⟩)) (hg : w.heap[g]? = some (.cells cs te fr))
    (hu : P.underlying ty = some d) (hd : (match d with | .struct _ | .array _ _ => true | _ => false) = true) (hi : (P.info? ty).map (·.size) = some cs.size) :
    (results fn tmps).run P w = .ok (.tuple #[.agg cs, tmps.getD t undef, tmps.getD u undef]) w := by
  have hp' : tmps[p]?.getD undef = .pointer (some ⟨g, 0, none⟩) := by simpa using hp
  simp [results, h, hp', asAddr, run_loadVar_row w g te ty cs fr d hg hu hd hi]
/-- A slice's address: from it the cells xs lie one behind the other, below block B. (Of an empty slice nothing is told.) -/
def Row (w : World) (B : Nat) (A : Option Addr) (xs : List Value) : Prop :=
  ∀ j (h : j < xs.length), ∃ b off, A = some ⟨b, off, none⟩ ∧ b < B ∧ w.cell? ⟨b, off + j, none⟩ = some xs[j]
section
variable {w w' : World} {B B' : Nat} {A : Option Addr} {xs : List Value}
theorem Row.nil : Row w B A [] := fun _ h => absurd h (Nat.not_lt_zero _)
theorem Row.keep (h : Row w B A xs) (hk : ∀ p : Addr, p.block < B → w'.cell? p = w.cell? p) : Row w' B A xs := fun j hj => by
  obtain ⟨b, off, e, hb, hc⟩ := h j hj
  exact ⟨b, off, e, hb, (hk ⟨b, off + j, none⟩ hb).trans hc⟩
theorem Row.more (h : Row w B A xs) (hB : B ≤ B') : Row w B' A xs := fun j hj => by
  obtain ⟨b, off, e, hb, hc⟩ := h j hj
  exact ⟨b, off, e, by omega, hc⟩
theorem Row.below (h : Row w B A xs) (hb : Below B w w') : Row w' B A xs := h.keep fun _ hp => hb.cell hp
theorem Row.drew (h : Row w B A xs) : Row w.drew B A xs := h
theorem Row.drewN (h : Row w B A xs) (k : Nat) : Row (w.drewN k) B A xs := h
theorem Row.alloc (h : Row w B A xs) (hB : B ≤ w.heap.size) (o : Obj) : Row (w.alloc o) B A xs := h.keep fun p hp => World.cell?_alloc_lt w o p (by omega)
theorem Row.setCell (h : Row w B A xs) {p : Addr} (hB : B ≤ p.block) (u : Value) : Row (w.setCell p u) B A xs :=
  h.keep fun q hq => World.cell?_setCell_other w p q u (fun e => by subst e; omega)
theorem Row.setRow (h : Row w B A xs) {g : Nat} (hB : B ≤ g) (cs : Array Value) : Row (w.setRow g cs) B A xs :=
  h.keep fun q hq => cell_setRow_other w g cs q (by omega)
theorem Row.grown (h : Row w B A xs) {row : Option Nat} (hg : w.grownBy w' row) (hB : B ≤ w.heap.size) (hr : ∀ g, row = some g → B ≤ g) : Row w' B A xs :=
  h.keep fun p hp => World.cell?_of_block (hg.block p.block (by omega) (fun e => by have := hr _ e.symm; omega))
theorem Row.take (h : Row w B A xs) (k : Nat) : Row w B A (xs.take k) := fun j hj => by
  have hj' : j < xs.length := by simp at hj; omega
  obtain ⟨b, off, e, hb, hc⟩ := h j hj'
  exact ⟨b, off, e, hb, by simpa using hc⟩
/-- A cut from k on: where the cut stands at the capacity's end nothing is told of its address. -/
theorem Row.drop (h : Row w B A xs) {k : Nat} {A' : Option Addr} (hA : ∀ b off, k < xs.length → A = some ⟨b, off, none⟩ → A' = some ⟨b, off + k, none⟩) : Row w B A' (xs.drop k) := fun j hj => by
  have hj' : k + j < xs.length := by simp at hj; omega
  obtain ⟨b, off, e, hb, hc⟩ := h (k + j) hj'
  refine ⟨b, off + k, hA b off (by omega) e, hb, ?_⟩
  rw [show off + k + j = off + (k + j) by omega, hc]; simp
theorem Row.of_own {base : Nat} {e : TypeId} {n c : Nat} (h : w.ownsRow base e 1 (.slice A n c) n xs) : Row w w.heap.size A xs := fun j hj => by
  have hn : 0 < n := by have := h.1; omega
  obtain ⟨g, cap, hv, _, hlt⟩ := h.form hn
  have hA : A = some ⟨g, 0, none⟩ := by injection hv
  subst hA
  have := h.cells (g := g) rfl j _ (List.getElem?_eq_getElem hj)
  exact ⟨g, 0, rfl, hlt, by simpa [Addr.add_lit] using this⟩
end
/-- The cells of bytes. -/
def bs (l : List UInt8) : List Value := l.map fun b => .int .u8 (b.toNat : Nat)
theorem bs_length (l : List UInt8) : (bs l).length = l.length := by simp [bs]
theorem bs_get (l : List UInt8) (j : Nat) (h : j < (bs l).length) : (bs l)[j] = .int .u8 ((l[j]'(by simpa [bs] using h)).toNat : Nat) := by simp [bs]
/-- A slice of bytes that reads as l. -/
def Bytes (w : World) (B : Nat) (A : Option Addr) (l : List UInt8) : Prop := Row w B A (bs l)
theorem Bytes.at_ {w : World} {B : Nat} {A : Option Addr} {l : List UInt8} (h : Bytes w B A l) {j : Nat} (hj : j < l.length) :
    ∃ b off, A = some ⟨b, off, none⟩ ∧ b < B ∧ w.cell? ⟨b, off + j, none⟩ = some (.int .u8 (l[j].toNat : Nat)) := by
  obtain ⟨b, off, e, hb, hc⟩ := h j (by simpa [bs] using hj)
  exact ⟨b, off, e, hb, by rw [hc, bs_get]⟩
/-- The same, for an operation that a guard lets by. -/
theorem held_one_g {P : Program} {ops : Array Oper} {Q : Exit → Act → World → Prop} {S : World → Prop} {i : Nat} {o : Oper} {fuel : Nat} {listed : Array Bool} {a : Act} {w : World}
    (ho : ops[i]? = some o) (hw : Region.wanted o (yielded ops a.tmps) = true) (hr : Region.ready .any ops listed = [i])
    (h : ∀ K : Act → World → Prop, (∀ a' w', S w' → wpAnyH P .any ops Q S fuel (listed.setIfInBounds i true) a' w' → K a' w') → o.wp P a w K Q) : wpAnyH P .any ops Q S (fuel + 1) listed a w := by
  refine wpAnyH_all hr (by simp) fun j hj => ?_
  obtain rfl : j = i := by simpa using hj
  unfold wpOp
  simp only [ho]
  rw [if_pos hw]
  exact .inl (h _ fun a' w' hS hh => ⟨hS, hh⟩)
/-- Two operations may come up now: either is taken. -/
theorem held_two {P : Program} {ops : Array Oper} {Q : Exit → Act → World → Prop} {S : World → Prop} {i j : Nat} {o o' : Oper} {fuel : Nat} {listed : Array Bool} {a : Act} {w : World}
    (hr : Region.ready .any ops listed = [i, j]) (ho : ops[i]? = some o) (hgd : o.guard = none) (ho' : ops[j]? = some o') (hgd' : o'.guard = none)
    (h : ∀ K : Act → World → Prop, (∀ a' w', S w' → wpAnyH P .any ops Q S fuel (listed.setIfInBounds i true) a' w' → K a' w') → o.wp P a w K Q)
    (h' : ∀ K : Act → World → Prop, (∀ a' w', S w' → wpAnyH P .any ops Q S fuel (listed.setIfInBounds j true) a' w' → K a' w') → o'.wp P a w K Q) : wpAnyH P .any ops Q S (fuel + 1) listed a w := by
  refine wpAnyH_all hr (by simp) fun k hk => ?_
  have hk' : k = i ∨ k = j := by simpa using hk
  rcases hk' with rfl | rfl
  · unfold wpOp
    simp only [ho]
    rw [if_pos (by simp [Region.wanted, hgd])]
    exact .inl (h _ fun a' w' hS hh => ⟨hS, hh⟩)
  · unfold wpOp
    simp only [ho']
    rw [if_pos (by simp [Region.wanted, hgd'])]
    exact .inl (h' _ fun a' w' hS hh => ⟨hS, hh⟩)
end Go.Proofs.Ytelplccbcbegkaa.Wd

namespace Go.Proofs.Ytelplccbcbegkaa.Wd
open Go Go.RowKit

section
variable {P : Program} {n l : Nat} {Q : Exit → Act → World → Prop}
theorem upon_in {o : Oper} {a : Act} {K : Act → World → Prop} {r : Result Next} (h : o.upon P a K Q r) : o.uponIn (Fence.wide.inRound l) n P a K Q r := by
  cases r with
  | ok x w' =>
    cases x with
    | value v => exact h
    | skip => exact h
    | defer d => exact h
    | enter f args => exact ⟨fun hd => by simp [Fence.wide, Fence.inRound] at hd, CallsIn.inRound l (callsIn_wide.2 h)⟩
    | row r args => exact ⟨fun hd => by simp [Fence.wide, Fence.inRound] at hd, fun c cs _ => let ⟨v, w', r, s⟩ := h c cs; ⟨v, w', r, stepsIn_wide.2 s⟩⟩
    | _ => exact h.elim
  | halt x w' => cases x <;> first | exact h | exact h.elim
theorem wp_in {o : Oper} {a : Act} {w : World} {K : Act → World → Prop} (hd : ∀ c, o.op ≠ .defer c) (h : o.wp P a w K Q) : o.wpIn (Fence.wide.inRound l) n P a w K Q :=
  ⟨fun _ _ => trivial, by rw [Oper.semAt_plain _ _ _ hd]; exact upon_in h⟩
/-- No operation defers a call. -/
def noDefer (ops : Array Oper) : Bool := ops.toList.all fun o => match o.op with | .defer _ => false | _ => true
theorem noDefer_at {ops : Array Oper} (h : noDefer ops = true) {i : Nat} {o : Oper} (ho : ops[i]? = some o) : ∀ c, o.op ≠ .defer c := fun c hc => by
  have hm : o ∈ ops.toList := Array.mem_toList_iff.2 (Array.mem_of_getElem? ho)
  have := (List.all_eq_true.1 h) o hm
  rw [hc] at this
  cases this
theorem wpOp_in {ops : Array Oper} (hd : noDefer ops = true) (hL : ¬ LetsOut Q) {i : Nat} {K : Act → World → Prop} {a : Act} {w : World} (h : wpOp P ops Q i K a w) : wpOpIn (Fence.wide.inRound l) n P ops Q i K a w := by
  unfold wpOp at h
  unfold wpOpIn
  cases ho : ops[i]? with
  | none => simpa [ho] using h
  | some o =>
    simp only [ho] at h ⊢
    split
    · rename_i hw
      rw [if_pos hw] at h
      rcases h with h | ⟨_, h⟩
      · exact wp_in (noDefer_at hd ho) h
      · exact (hL h).elim
    · rename_i hw
      rw [if_neg hw] at h
      exact ⟨fun _ _ => trivial, h⟩
theorem wpAny_in {ops : Array Oper} (hd : noDefer ops = true) (hL : ¬ LetsOut Q) : ∀ (fuel : Nat) (listed : Array Bool) (a : Act) (w : World), wpAny P .any ops Q fuel listed a w → wpAnyIn (Fence.wide.inRound l) n P .any ops Q fuel listed a w
  | 0, _, _, _, h => h
  | fuel + 1, _, _, _, h => ⟨h.1, fun i hi => wpOp_in hd hL (wpOp_mono (fun a' w' h' => wpAny_in hd hL fuel _ a' w' h') (h.2 i hi))⟩
theorem wpIn_region_held {ops : Array Oper} {S : World → Prop} {id : Nat} {a : Act} {w : World} (hm : P.follows .mixedOrders = true) (hd : noDefer ops = true) (hL : ¬ LetsOut Q)
    (h : wpAnyH P .any ops Q S ops.size (Array.replicate ops.size false) a w.drew) : (Code.region id ops true).wpIn (Fence.wide.inRound l) n P Q a w :=
  wpIn_region_any hm (wpAny_in hd hL _ _ _ _ (wpAny_of_held _ _ _ _ h))
end
end Go.Proofs.Ytelplccbcbegkaa.Wd

namespace Go.Proofs.Ytelplccbcbegkaa.Wd
open Go Go.RowKit

section
variable {P : Program} (w : World)

theorem run_append_nothing (base : Nat) (t ty e : TypeId) (i : TypeInfo) (size : Nat) (ht : P.underlying t = some (.slice e)) (hi : P.info? e = some i)
    (v : Value) (n : Nat) (xs : List Value) (hown : w.ownsRow base e size v n xs) (c : Nat) : (Builtin.append_ #[t, t] ty #[v, .slice none 0 c]).run P w = .ok v w := by
  rcases hown.2 with ⟨rfl, rfl⟩ | ⟨g, cap, cur, rfl, _, _, hnc, _⟩
  · simp [Builtin.append_, run_underlying ht, sizeOf, typeInfo, hi, Builtin.lenOf, Builtin.firstCells]
  · simp [Builtin.append_, run_underlying ht, sizeOf, typeInfo, hi, Builtin.lenOf, Builtin.firstCells, hnc, storeCells]

theorem run_append_row (base : Nat) (t ty e : TypeId) (i : TypeInfo) (z : Value) (bytes : Nat) (ht : P.underlying t = some (.slice e)) (hi : P.info? e = some i) (hz : i.zero = some z)
    (hsize : i.size = 1) (hby : i.bytes = bytes) (hzs : z.cells.size = 1)
    (v : Value) (n : Nat) (xs : List Value) (hown : w.ownsRow base e 1 v n xs)
    (B : Nat) (A : Option Addr) (m c : Nat) (news : List Value) (hm : m = news.length) (hr : Row w B A news) (h1 : ∀ u ∈ news, u.oneCell' = true)
    (h63 : n + m ≤ maxLen) (hbytes : (n + m) * bytes ≤ 140737488355328) (hbase : base ≤ w.heap.size) :
    ∃ v' w', (Builtin.append_ #[t, t] ty #[v, .slice A m c]).run P w = .ok v' w' ∧ w'.ownsRow base e 1 v' (n + m) (xs ++ news) ∧ w.grownBy w' v.ownBlock ∧
      (v' = .slice none 0 0 ↔ v = .slice none 0 0 ∧ m = 0) ∧ (v'.ownBlock = v.ownBlock ∨ v'.ownBlock = some w.heap.size) := by
  subst hm
  rcases A with _ | ad
  · have hn : news = [] := by
      rcases news with _ | ⟨x, r⟩
      · rfl
      · obtain ⟨b, off, h, _⟩ := hr 0 (by simp)
        cases h
    subst hn
    exact ⟨v, w, run_append_nothing w base t ty e i 1 ht hi v n xs hown c, by simpa using hown, World.grownBy.refl w _, by simp, .inl rfl⟩
  · have hcells : ∀ j u, news[j]? = some u → w.cell? (ad.add j) = some u := by
      intro j u hu
      obtain ⟨hj, hv⟩ := List.getElem?_eq_some_iff.1 hu
      obtain ⟨b, off, h, _, hc⟩ := hr j hj
      injection h with h
      subst h
      rw [Addr.add_lit, hc, hv]
    exact run_append_own_at (P := P) w base t ty e i z 1 bytes ht hi hz hsize hby hzs (by omega) v n xs hown ad news.length c news (by simp) hcells h1 h63 hbytes hbase

theorem wp_append_row {o : Oper} {a : Act} {K : Act → World → Prop} {Q : Exit → Act → World → Prop} (s x : Operand) (t : TypeId)
    (ho : o.op = .call { callee := .builtin .append, args := #[s, x], argTypes := #[t, t] })
    (base : Nat) (e : TypeId) (i : TypeInfo) (z : Value) (bytes : Nat) (ht : P.underlying t = some (.slice e)) (hi : P.info? e = some i) (hz : i.zero = some z)
    (hsize : i.size = 1) (hby : i.bytes = bytes) (hzs : z.cells.size = 1)
    (v : Value) (n : Nat) (xs : List Value) (hs : a.eval s = v) (hown : w.ownsRow base e 1 v n xs)
    (B : Nat) (A : Option Addr) (m c : Nat) (news : List Value) (hx : a.eval x = .slice A m c) (hm : m = news.length) (hr : Row w B A news) (h1 : ∀ u ∈ news, u.oneCell' = true)
    (h63 : n + m ≤ maxLen) (hbytes : (n + m) * bytes ≤ 140737488355328) (hbase : base ≤ w.heap.size)
    (h : ∀ v' w', w'.ownsRow base e 1 v' (n + m) (xs ++ news) → w.grownBy w' v.ownBlock → (v' = .slice none 0 0 ↔ v = .slice none 0 0 ∧ m = 0) → (v'.ownBlock = v.ownBlock ∨ v'.ownBlock = some w.heap.size) → K (a.put o.dst v') w') : o.wp P a w K Q := by
  obtain ⟨v', w', hrun, h2, h3, h4, h5⟩ := run_append_row (P := P) w base t o.type e i z bytes ht hi hz hsize hby hzs v n xs hown B A m c news hm hr h1 h63 hbytes hbase
  unfold Oper.wp execOp
  simp only [ho, resolve, invoke, builtin, Sem.run_bind, Sem.run_pure, Result.andThen_ok, List.map_toArray, List.map_cons, List.map_nil, hs, hx, hrun]
  exact h v' w' h2 h3 h4 h5

theorem wpList_append_row {ops : Array Oper} {rest : List Oper} {o : Oper} {a : Act} {Q : Exit → Act → World → Prop} (hgd : o.guard = none) (s x : Operand) (t : TypeId)
    (ho : o.op = .call { callee := .builtin .append, args := #[s, x], argTypes := #[t, t] })
    (base : Nat) (e : TypeId) (i : TypeInfo) (z : Value) (bytes : Nat) (ht : P.underlying t = some (.slice e)) (hi : P.info? e = some i) (hz : i.zero = some z)
    (hsize : i.size = 1) (hby : i.bytes = bytes) (hzs : z.cells.size = 1)
    (v : Value) (n : Nat) (xs : List Value) (hs : a.eval s = v) (hown : w.ownsRow base e 1 v n xs)
    (B : Nat) (A : Option Addr) (m c : Nat) (news : List Value) (hx : a.eval x = .slice A m c) (hm : m = news.length) (hr : Row w B A news) (h1 : ∀ u ∈ news, u.oneCell' = true)
    (h63 : n + m ≤ maxLen) (hbytes : (n + m) * bytes ≤ 140737488355328) (hbase : base ≤ w.heap.size)
    (h : ∀ v' w', w'.ownsRow base e 1 v' (n + m) (xs ++ news) → w.grownBy w' v.ownBlock → (v' = .slice none 0 0 ↔ v = .slice none 0 0 ∧ m = 0) → (v'.ownBlock = v.ownBlock ∨ v'.ownBlock = some w.heap.size) → wpList P ops Q rest (a.put o.dst v') w') : wpList P ops Q (o :: rest) a w :=
  wpList_plain hgd fun _ hK => wp_append_row w s x t ho base e i z bytes ht hi hz hsize hby hzs v n xs hs hown B A m c news hx hm hr h1 h63 hbytes hbase fun v' w' h2 h3 h4 h5 => hK _ _ (h v' w' h2 h3 h4 h5)

/-- Bytes as a string. -/
theorem run_convert_bytes (src e dst : TypeId) (hs : P.underlying src = some (.slice e)) (he : P.underlying e = some (.int .u8)) (hd : P.underlying dst = some .string)
    {B : Nat} {A : Option Addr} {l : List UInt8} {n : Nat} (h : Bytes w B A l) (c : Nat) (hn : n = l.length) : (convert src dst (.slice A n c)).run P w = .ok (.string ⟨l.toArray⟩) w := by
  subst hn
  rcases A with _ | ad
  · have hl : l = [] := by
      rcases l with _ | ⟨x, r⟩
      · rfl
      · obtain ⟨b, off, h, _⟩ := h.at_ (j := 0) (by simp)
        cases h
    subst hl
    exact run_convert_bytes_nil w src e hs he 0 c dst hd
  · have hl : (loadCells ad l.length).run P w = .ok ((l.map fun b => ((b.toNat : Nat) : Int)).map (Value.int .u8)).toArray w := by
      have := run_loadCells_list (P := P) w ad (bs l) (fun j v hj => by
        obtain ⟨hjl, hv⟩ := List.getElem?_eq_some_iff.1 hj
        obtain ⟨b, off, e', _, hc⟩ := h j hjl
        injection e' with e'
        subst e'
        rw [Addr.add_lit, hc, hv])
      rw [bs_length] at this
      rw [this, bs, List.map_map]; rfl
    rw [run_convert_bytes_string w src dst e _ l.length c hs he hd, run_bytesToString w _ l.length c _ hl, foldl_push_bytes]
    simp only [List.map_map]
    congr 2
    simp [ByteArray.empty, ByteArray.emptyWithCapacity, Function.comp_def]
    rfl
end

/-- An array value, asked at an index. -/
theorem run_index_agg {P : Program} (t e : TypeId) (n : Nat) (cs : Array Value) (k : Nat) (v : Value) (ik kk : IntKind) (i : TypeInfo) (h : P.underlying t = some (.array n e)) (hi : P.info? e = some i) (hs : i.size = 1) (he : P.underlying e = some (.int kk)) (hk : k < n) (hv : cs[k]? = some v) (W : World) :
    (Instr.index t (.agg cs) (.int ik (k : Int))).run P W = .ok v W := by
  simp [Instr.index, asIntOf, run_underlying h, hk, sizeOf, typeInfo, hi, hs, part, isAgg, run_underlying he, hv]
/-- An own row as a slice value. -/
theorem own_slice {w : World} {base : Nat} {e : TypeId} {v : Value} {n : Nat} {xs : List Value} (h : w.ownsRow base e 1 v n xs) :
    ∃ A c, v = .slice A n c ∧ Row w w.heap.size A xs := by
  have hl := h.1
  rcases h.2 with ⟨rfl, rfl⟩ | ⟨g, cap, cur, rfl, h2⟩
  · have : xs = [] := List.eq_nil_of_length_eq_zero (by simpa using hl)
    subst this
    exact ⟨none, 0, rfl, Row.nil⟩
  · exact ⟨_, cap, rfl, Row.of_own h⟩
theorem own_nil (w : World) (base : Nat) (e : TypeId) : w.ownsRow base e 1 (.slice none 0 0) 0 [] := World.ownsRow_nil _ _ _ _
/-- A block that is known whole owns its first cells. -/
theorem Blk.own {w : World} {g base : Nat} {e : TypeId} {cs : Array Value} (h : Blk w g e cs) (hb : base ≤ g) (n : Nat) (hn : n ≤ cs.size) (hm : cs.size ≤ maxLen) :
    w.ownsRow base e 1 (.slice (some ⟨g, 0, none⟩) n cs.size) n (cs.toList.take n) :=
  ⟨by simp [hn], .inr ⟨g, cs.size, cs, rfl, hb, h, hn, hm, by simp, by simp⟩⟩
theorem own_base {w : World} {base base' : Nat} {e : TypeId} {size : Nat} {v : Value} {n : Nat} {xs : List Value} (h : w.ownsRow base e size v n xs) (hb : base' ≤ base) : w.ownsRow base' e size v n xs := by
  obtain ⟨h1, h2⟩ := h
  refine ⟨h1, ?_⟩
  rcases h2 with h2 | ⟨g, cap, cur, hv, hg, r⟩
  · exact .inl h2
  · exact .inr ⟨g, cap, cur, hv, by omega, r⟩
/-- A full own row is a block that is known whole. -/
theorem own_full {w : World} {base g n : Nat} {e : TypeId} {xs : List Value} (h : w.ownsRow base e 1 (.slice (some ⟨g, 0, none⟩) n n) n xs) : Blk w g e xs.toArray ∧ xs.length = n := by
  have hl := h.1
  rcases h.2 with ⟨h, _⟩ | ⟨g', cap, cur, h, _, hh, _, _, hcs, htake⟩
  · simp at h
  · simp only [Value.slice.injEq, Option.some.injEq, Addr.mk.injEq, and_true, true_and] at h
    obtain ⟨rfl, rfl⟩ := h
    refine ⟨?_, by simpa using hl⟩
    have e : cur = xs.toArray := by
      apply Array.ext'
      rw [← htake, List.take_of_length_le (by simp; omega)]
    rw [← e]; exact hh
theorem bs_one (l : List UInt8) : ∀ u ∈ bs l, u.oneCell' = true := by
  intro u hu
  obtain ⟨_, _, rfl⟩ := List.mem_map.1 hu
  rfl
theorem Row.blk {w : World} {g B : Nat} {t : TypeId} {cs : Array Value} (h : Blk w g t cs) (hB : g < B) : Row w B (some ⟨g, 0, none⟩) cs.toList := fun j hj =>
  ⟨g, 0, rfl, hB, by rw [Nat.zero_add, h.cell]; simp at hj; simp [hj]⟩
theorem Row.blkF {w : World} {g B : Nat} {t : TypeId} {cs : Array Value} {fr : Nat × Nat} (h : w.heap[g]? = some (.cells cs t fr)) (hB : g < B) : Row w B (some ⟨g, 0, none⟩) cs.toList := fun j hj =>
  ⟨g, 0, rfl, hB, by rw [Nat.zero_add, cell_of_row w g j cs t fr h]; simp at hj; simp [hj]⟩
/-- Bytes in the newest block, whatever mark it bears. -/
theorem Bytes.new_ (w : World) (t : TypeId) (cs : Array Value) (fr : Nat × Nat) (l : List UInt8) (hl : cs.toList = bs l) {n : Nat} (hn : n = w.heap.size) {B : Nat} (hB : n < B) : Bytes (w.alloc (.cells cs t fr)) B (some ⟨n, 0, none⟩) l := by
  subst hn; unfold Bytes; rw [← hl]; exact Row.blkF (heap_alloc_new w _) hB
theorem Bytes.blk {w : World} {g B : Nat} {t : TypeId} {cs : Array Value} (h : Blk w g t cs) (hB : g < B) (l : List UInt8) (hl : cs.toList = bs l) : Bytes w B (some ⟨g, 0, none⟩) l := by
  unfold Bytes; rw [← hl]; exact Row.blk h hB
/-- A block whose first cells are xs; nothing of it is frozen. -/
def Own1 (w : World) (g : Nat) (e : TypeId) (xs : List Value) : Prop := ∃ cur, Blk w g e cur ∧ cur.toList.take xs.length = xs
section
variable {w w' : World} {g B : Nat} {e : TypeId} {xs : List Value}
theorem Own1.of_own {base : Nat} {v : Value} {n : Nat} (h : w.ownsRow base e 1 v n xs) (hn : 0 < n) : ∃ g cap, v = .slice (some ⟨g, 0, none⟩) n cap ∧ base ≤ g ∧ n ≤ cap ∧ cap ≤ maxLen ∧ Own1 w g e xs := by
  have hl := h.1
  rcases h.2 with ⟨_, h0⟩ | ⟨g, cap, cur, hv, hb, hg, hc, hm, _, ht⟩
  · omega
  · exact ⟨g, cap, hv, hb, hc, hm, cur, hg, by rw [hl]; exact ht⟩
theorem Own1.blk {cs : Array Value} (h : Blk w g e cs) : Own1 w g e cs.toList := ⟨cs, h, List.take_length⟩
theorem Own1.size (h : Own1 w g e xs) : ∃ cur, Blk w g e cur ∧ xs.length ≤ cur.size := by
  obtain ⟨cur, hb, ht⟩ := h
  have := congrArg List.length ht
  simp at this
  exact ⟨cur, hb, by omega⟩
theorem Own1.lt (h : Own1 w g e xs) : g < w.heap.size := by obtain ⟨cur, hb, _⟩ := h; exact hb.lt
theorem Own1.cell (h : Own1 w g e xs) {j : Nat} (hj : j < xs.length) : w.cell? ⟨g, j, none⟩ = some xs[j] := by
  obtain ⟨cur, hb, ht⟩ := h
  rw [hb.cell]
  have h1 : (cur.toList.take xs.length)[j]? = xs[j]? := by rw [ht]
  rw [List.getElem?_take_of_lt hj, List.getElem?_eq_getElem hj] at h1
  simpa using h1
theorem Own1.frozen (h : Own1 w g e xs) (j : Nat) : w.frozen? ⟨g, j, none⟩ = false := by obtain ⟨cur, hb, _⟩ := h; exact hb.frozen j
theorem Own1.row (h : Own1 w g e xs) (hB : g < B) : Row w B (some ⟨g, 0, none⟩) xs := fun j hj => ⟨g, 0, rfl, hB, by rw [Nat.zero_add]; exact h.cell hj⟩
theorem Own1.below (h : Own1 w g e xs) (hb : Below B w w') (hg : g < B) : Own1 w' g e xs := by obtain ⟨cur, hc, ht⟩ := h; exact ⟨cur, hc.below hb hg, ht⟩
theorem Own1.drew (h : Own1 w g e xs) : Own1 w.drew g e xs := h
theorem Own1.drewN (h : Own1 w g e xs) (n : Nat) : Own1 (w.drewN n) g e xs := h
theorem Own1.alloc (h : Own1 w g e xs) (o : Obj) : Own1 (w.alloc o) g e xs := by obtain ⟨cur, hc, ht⟩ := h; exact ⟨cur, hc.alloc o, ht⟩
theorem Own1.grown {row : Option Nat} (h : Own1 w g e xs) (hb : w.grownBy w' row) (hg : some g ≠ row) : Own1 w' g e xs := by obtain ⟨cur, hc, ht⟩ := h; exact ⟨cur, hc.grown hb hg, ht⟩
theorem Own1.far (h : Own1 w g e xs) {p : Addr} (hp : g ≠ p.block) (u : Value) : Own1 (w.setCell p u) g e xs := by obtain ⟨cur, hc, ht⟩ := h; exact ⟨cur, hc.far hp u, ht⟩
theorem Own1.set_ (h : Own1 w g e xs) (k : Nat) (u : Value) : Own1 (w.setCell ⟨g, k, none⟩ u) g e (xs.set k u) := by
  obtain ⟨cur, hc, ht⟩ := h
  refine ⟨_, hc.set_ k u, ?_⟩
  rw [Array.toList_setIfInBounds, List.length_set, List.take_set, ht]
end
theorem bs_set (l : List UInt8) (k : Nat) (x : UInt8) : (bs l).set k (.int .u8 (x.toNat : Nat)) = bs (l.set k x) := by simp [bs, List.map_set]
theorem bs_append (a b : List UInt8) : bs (a ++ b) = bs a ++ bs b := List.map_append
/-- An argument's slice lies among the blocks that are there. -/
theorem slice_arg_lt {w : World} {x : Addr} {len cap : Nat} {zs : List Int} {k : IntKind}
    (h : (some x = none ∧ len = 0 ∧ cap = 0 ∧ zs = []) ∨ ∃ y, some x = some y ∧ len ≤ cap ∧ cap ≤ maxLen ∧ zs.length = cap ∧ (∀ i, i < zs.length → w.cell? (y.add i) = some (.int k (zs.getD i 0))) ∧ ∀ n ∈ zs, (Lit.int k n).wf = true) (hl : 0 < len) : x.block < w.heap.size := by
  rcases h with ⟨h, _⟩ | ⟨y, h, h1, h2, h3, h4, _⟩
  · cases h
  · injection h with h
    subst h
    have := block_lt_of_cell (h4 0 (by omega))
    simpa [Addr.add] using this
/-- What an argument of bytes reads as. -/
theorem bytes_arg {w : World} {a : Option Addr} {len cap : Nat} {zs : List Int} (B : Nat)
    (h : (a = none ∧ len = 0 ∧ cap = 0 ∧ zs = []) ∨ ∃ x, a = some x ∧ len ≤ cap ∧ cap ≤ maxLen ∧ zs.length = cap ∧ (∀ i, i < zs.length → w.cell? (x.add i) = some (.int .u8 (zs.getD i 0))) ∧ ∀ n ∈ zs, (Lit.int .u8 n).wf = true)
    (hlt : ∀ x, a = some x → 0 < len → x.block < B) :
    ∃ l : List UInt8, l.length = len ∧ len ≤ cap ∧ cap ≤ maxLen ∧ Bytes w B a l := by
  rcases h with ⟨rfl, rfl, rfl, rfl⟩ | ⟨x, rfl, h1, h2, h3, h4, h5⟩
  · exact ⟨[], rfl, Nat.le_refl _, by simp [maxLen], Row.nil⟩
  · refine ⟨(zs.take len).map fun n => UInt8.ofNat n.toNat, by simp; omega, h1, h2, fun j hj => ?_⟩
    have hj' : j < len := by simp [bs] at hj; omega
    obtain ⟨b, off, spot⟩ := x
    have hc := h4 j (by omega)
    have hspot : spot = none := by
      have h0 := World.cell?_spot (h4 0 (by omega))
      simpa [Addr.add] using h0
    subst hspot
    refine ⟨b, off, rfl, hlt _ rfl (by omega), ?_⟩
    rw [Addr.add_lit] at hc
    rw [hc]
    have hg : zs.getD j 0 = zs[j]'(by omega) := by simp [show j < zs.length by omega]
    have hm : zs.getD j 0 ∈ zs := by rw [hg]; exact List.getElem_mem _
    have hb := bounds_u8 (h5 _ hm)
    simp only [bs, List.getElem_map, List.getElem_take]
    rw [hg] at hb ⊢
    congr 2
    rw [UInt8.toNat_ofNat_of_lt' (by simp [UInt8.size]; omega)]
    omega
end Go.Proofs.Ytelplccbcbegkaa.Wd

namespace Go.Proofs.Ytelplccbcbegkaa.Wd
open Go Go.RowKit

/-- From B on blocks that hold no cells may turn; and there may be more blocks. -/
structure Turns (B : Nat) (W W' : World) : Prop where
  below : Below B W W'
  cells : ∀ (k : Nat) (o : Obj), W.heap[k]? = some o → o.isCells = true → W'.heap[k]? = some o
theorem Turns.of_below {B : Nat} {W W' : World} (h : Below W.heap.size W W') (hB : B ≤ W.heap.size) : Turns B W W' :=
  ⟨h.mono hB, fun k _ hk _ => (h.block k (Array.getElem?_eq_some_iff.1 hk).1).trans hk⟩
theorem Turns.trans {B : Nat} {X Y Z : World} (h : Turns B X Y) (k : Turns B Y Z) : Turns B X Z := ⟨h.below.trans k.below, fun i o hi ho => k.cells i o (h.cells i o hi ho) ho⟩
theorem Turns.putObj {B : Nat} {W : World} {l : Nat} {o : Obj} (o' : Obj) (hl : B ≤ l) (h : W.heap[l]? = some o) (ho : o.isCells = false) : Turns B W (W.putObj l o') :=
  ⟨(Below.refl B W).grown (grownBy_putObj' W l o') (by have := (Array.getElem?_eq_some_iff.1 h).1; omega) (fun k e => by cases e; omega), fun k u hk hu => by
    have hne : k ≠ l := by rintro rfl; rw [h] at hk; cases hk; rw [ho] at hu; cases hu
    exact (World.putObj_heap_other hne).trans hk⟩

/-- How a round may end: on it goes, or the loop's function returns. -/
def roundEnds {σ α : Type} (Kp : World → World → Prop) (go : α → Bool) (I : σ → World → Prop) (Ix : σ → α → World → Prop) (s s' : σ) (x : α) (W : World) : Exit → Act → World → Prop
  | .normal, _, W' => KeepsOthers W W' ∧ Kp W W' ∧ go x = true ∧ I s' W'
  | .ret, _, W' => KeepsOthers W W' ∧ go x = false ∧ Ix s x W'
  | _, _, _ => False

theorem range_ev {P : Program} {σ α : Type} {g : Operand} {ps : Array Tmp} {assign body : Code} {Q : Exit → Act → World → Prop} {a : Act} {w : World}
    {gf : Nat} {lb : Array Value} (hg : a.eval g = .func (.func gf) #[] lb) (eg : ∀ args w, (callFunc gf args).run P w = .ok (.enter gf args) w)
    (encs : α → Array Value) (hps : ∀ x, (encs x).size = ps.size) (step : σ → α → σ) (s₀ : σ) (E : σ → α → World → Prop) (go : α → Bool)
    (Kp : World → World → Prop) (hKt : ∀ {A B C : World}, Kp A B → Kp B C → Kp A C) (hKb : ∀ (W : World) (l : Nat) (o o' : Obj), w.heap.size ≤ l → W.heap[l]? = some o → o.isCells = false → Kp W (W.putObj l o'))
    (S : σ → Prop) (Sx : σ → α → Prop)
    (hseq : ∀ (l : Nat) (J : σ → World → Prop) (Jx : σ → α → World → Prop) (W : World), Turns w.heap.size w W →
      (∀ s W W', J s W → Below W.heap.size W W' → J s W') →
      (∀ s x W, J s W → E s x W → YieldAt Fence.wide 8 P l (encs x) W fun e W' => (e = .returned (.bool true) ∧ go x = true ∧ J (step s x) W' ∧ Kp W W') ∨ (e = .returned (.bool false) ∧ go x = false ∧ Jx s x W')) →
      J s₀ W → CallsIn Fence.wide 9 P gf (#[.func (.yield l) #[] #[]] ++ lb) W fun e W' => (∃ v, e = .returned v) ∧ ((∃ s, S s ∧ J s W') ∨ ∃ s x, Sx s x ∧ Jx s x W'))
    (I : σ → World → Prop) (Ix : σ → α → World → Prop) (hI : ∀ s W W', I s W → Turns w.heap.size W W' → I s W') (hIx : ∀ s x W W', Ix s x W → Turns w.heap.size W W' → Ix s x W') (hE : ∀ s x W W', E s x W → Turns w.heap.size W W' → E s x W')
    (h0 : I s₀ w) (Ax : σ → α → Act → World → Prop) (hAx : ∀ s x a' W W', Ax s x a' W → Turns w.heap.size W W' → Ax s x a' W')
    (hassign : ∀ (l : Nat) (s : σ) (x : α) (W : World) (K : Act → World → Prop), I s W → E s x W → (∀ a' W', KeepsOthers W W' → Kp W W' → I s W' → E s x W' → Ax s x a' W' → K a' W') →
      assign.wpIn (Fence.wide.inRound l) 8 P (Exit.then K (fun _ _ _ => False)) { tmps := (ps.zip (encs x)).foldl (fun t (p, v) => t.setIfInBounds p v) a.tmps, defers := [] } W)
    (hbody : ∀ (l : Nat) (s : σ) (x : α) (a' : Act) (W : World), I s W → E s x W → Ax s x a' W → body.wpIn (Fence.wide.inRound l) 8 P (roundEnds Kp go I Ix s (step s x) x W) a' W)
    (hdone : ∀ (D : Nat) (s : σ) (W : World), w.heap.size ≤ D → S s → I s W → W.heap[D]? = some (.deferred (some [])) → Q .normal { a with defers := { target := .collected D, args := #[] } :: a.defers } W)
    (hstop : ∀ (D : Nat) (s : σ) (x : α) (W : World), w.heap.size ≤ D → Sx s x → Ix s x W → W.heap[D]? = some (.deferred (some [])) → Code.ret.wpIn Fence.wide 10 P Q { a with defers := { target := .collected D, args := #[] } :: a.defers } W) :
    (Code.rangeFunc g ps assign body).wpIn Fence.wide 10 P Q a w := by
  refine wpIn_rangeFunc ?_
  intro fn hfn
  obtain ⟨rc, hrc⟩ : ∃ rc : LoopState → Option Code → Loop, rc = fun st pe => { state := st, pending := pe, fn, tmps := a.tmps, params := ps, assign, body, defers := w.heap.size } := ⟨_, rfl⟩
  obtain ⟨W1, hW1⟩ : ∃ W1, (w.alloc (.deferred (some []))).alloc (.loop (rc .ready none)) = W1 := ⟨_, rfl⟩
  have hb1 : Below w.heap.size w W1 := by rw [← hW1]; exact ((Below.refl _ w).alloc (Nat.le_refl _) _).alloc (by simp) _
  have hL1 : W1.heap[w.heap.size + 1]? = some (.loop (rc .ready none)) := by
    rw [← hW1]; have := World.alloc_heap_new (w.alloc (.deferred (some []))) (.loop (rc .ready none)); rwa [World.size_alloc] at this
  have hD1 : W1.heap[w.heap.size]? = some (.deferred (some [])) := by
    rw [← hW1]; exact (Below.heap_alloc _ _ _ (by simp)).trans (World.alloc_heap_new w _)
  have hT1 : Turns w.heap.size w W1 := Turns.of_below hb1 (Nat.le_refl _)
  refine ⟨w.heap.size + 1, [{ target := .collected w.heap.size, args := #[] }], W1, { target := .fn (.func gf) lb, args := #[.func (.yield (w.heap.size + 1)) #[] #[]] }, W1, gf,
    #[.func (.yield (w.heap.size + 1)) #[] #[]] ++ lb, W1, ?_, ?_, fun _ _ => trivial, ?_, fun _ => by omega, ?_⟩
  · rw [← hW1, hrc]; exact run_enterLoop_outer _ _ _ _ _
  · simp only [resolve, hg]
    simp [go_sem]
  · simp [invoke, go_sem, eg]
  refine (hseq (w.heap.size + 1)
    (fun s W => I s W ∧ W.heap[w.heap.size + 1]? = some (.loop (rc .ready none)) ∧ W.heap[w.heap.size]? = some (.deferred (some [])))
    (fun s x W => Ix s x W ∧ W.heap[w.heap.size + 1]? = some (.loop (rc .done (some .ret))) ∧ W.heap[w.heap.size]? = some (.deferred (some []))) W1 hT1 ?_ ?_ ⟨hI _ _ _ h0 hT1, hL1, hD1⟩).mono ?_
  · rintro s W W' ⟨hi, hl, hd⟩ hb
    have hlt := (Array.getElem?_eq_some_iff.1 hl).1
    exact ⟨hI _ _ _ hi (Turns.of_below hb (by omega)), (hb.block _ hlt).trans hl, (hb.block _ (by omega)).trans hd⟩
  · rintro s x W ⟨hi, hl, hd⟩ he
    have hy := run_yield (P := P) (args := encs x) hl (by rw [hrc]; exact hps x)
    rw [hrc] at hy
    refine ⟨fn, _, assign, body, hy, roundIn_of_wpIn hfn (hassign _ s x W _ hi he ?_)⟩
    clear hy
    intro a' Wa hka hkp hia hea hax
    have hla := hka.same _ _ hl rfl
    have hda := hka.same _ _ hd rfl
    have hlt : w.heap.size + 1 < Wa.heap.size := (Array.getElem?_eq_some_iff.1 hla).1
    refine ⟨_, run_beginRound hla (by rw [hrc]), ?_⟩
    have hT2 : Turns w.heap.size Wa (Wa.putObj (w.heap.size + 1) (.loop { rc .ready none with state := .busy })) := Turns.putObj _ (by omega) hla rfl
    have hl2 : (Wa.putObj (w.heap.size + 1) (.loop { rc .ready none with state := .busy })).heap[w.heap.size + 1]? = some (.loop { rc .ready none with state := .busy }) := World.putObj_heap_same hlt
    have hd2 : (Wa.putObj (w.heap.size + 1) (.loop { rc .ready none with state := .busy })).heap[w.heap.size]? = some (.deferred (some [])) := (World.putObj_heap_other (by omega)).trans hda
    have hk2 : Kp Wa (Wa.putObj (w.heap.size + 1) (.loop { rc .ready none with state := .busy })) := hKb _ _ _ _ (by omega) hla rfl
    refine wpIn_mono (hbody _ s x a' _ (hI _ _ _ hia hT2) (hE _ _ _ _ hea hT2) (hAx _ _ _ _ _ hax hT2)) ?_
    have fin : ∀ (jump : Option Code) (W3 : World), KeepsOthers (Wa.putObj (w.heap.size + 1) (.loop { rc .ready none with state := .busy })) W3 →
        (Instr.endRound (w.heap.size + 1) jump).run P W3 = .ok (.bool jump.isNone) (W3.putObj (w.heap.size + 1) (.loop (rc (if jump.isNone then .ready else .done) jump))) ∧
        Turns w.heap.size W3 (W3.putObj (w.heap.size + 1) (.loop (rc (if jump.isNone then .ready else .done) jump))) ∧
        Kp W3 (W3.putObj (w.heap.size + 1) (.loop (rc (if jump.isNone then .ready else .done) jump))) ∧
        (W3.putObj (w.heap.size + 1) (.loop (rc (if jump.isNone then .ready else .done) jump))).heap[w.heap.size + 1]? = some (.loop (rc (if jump.isNone then .ready else .done) jump)) ∧
        (W3.putObj (w.heap.size + 1) (.loop (rc (if jump.isNone then .ready else .done) jump))).heap[w.heap.size]? = some (.deferred (some [])) := fun jump W3 hk3 => by
      have hl3 := hk3.same _ _ hl2 rfl
      have hd3 := hk3.same _ _ hd2 rfl
      have := run_endRound (P := P) jump hl3
      refine ⟨by rw [hrc] at this ⊢; exact this, Turns.putObj _ (by omega) hl3 rfl, hKb _ _ _ _ (by omega) hl3 rfl, World.putObj_heap_same (Array.getElem?_eq_some_iff.1 hl3).1, (World.putObj_heap_other (by omega)).trans hd3⟩
    rintro e a3 W3 hp
    cases e with
    | normal =>
      obtain ⟨hk3, hkp3, hgo, hi3⟩ := hp
      obtain ⟨hr, hT, hkb, hl4, hd4⟩ := fin none W3 hk3
      exact ⟨_, _, hr, .inl ⟨rfl, hgo, ⟨hI _ _ _ hi3 hT, hl4, hd4⟩, hKt hkp (hKt (hKt hk2 hkp3) hkb)⟩⟩
    | ret =>
      obtain ⟨hk3, hgo, hi3⟩ := hp
      obtain ⟨hr, hT, hkb, hl4, hd4⟩ := fin (some .ret) W3 hk3
      exact ⟨_, _, hr, .inr ⟨rfl, hgo, hIx _ _ _ _ hi3 hT, hl4, hd4⟩⟩
    | exit id => exact hp.elim
    | goto t => exact hp.elim
    | panic ch => exact hp.elim
    | outgrown => exact hp.elim
  · rintro e W2 ⟨⟨v, rfl⟩, (⟨s, hS, hi, hl, hd⟩ | ⟨s, x, hSx, hi, hl, hd⟩)⟩
    · have hT := Turns.putObj (B := w.heap.size) (.loop (rc .exhausted none)) (by omega) hl rfl
      exact ⟨none, _, by have := run_endLoop (P := P) hl (by rw [hrc]; simp); rw [hrc] at this ⊢; exact this, hdone _ s _ (Nat.le_refl _) hS (hI _ _ _ hi hT) ((World.putObj_heap_other (by omega)).trans hd)⟩
    · have hT := Turns.putObj (B := w.heap.size) (.loop (rc .exhausted (some .ret))) (by omega) hl rfl
      exact ⟨some .ret, _, by have := run_endLoop (P := P) hl (by rw [hrc]; simp); rw [hrc] at this ⊢; exact this, hstop _ s x _ (Nat.le_refl _) hSx (hIx _ _ _ _ hi hT) ((World.putObj_heap_other (by omega)).trans hd)⟩
end Go.Proofs.Ytelplccbcbegkaa.Wd

namespace Go.Proofs.Ytelplccbcbegkaa.Wd
open Go Go.RowKit

section
variable {P : Program} {ops : Array Oper} {Q : Exit → Act → World → Prop} {md : Region.Mode} {B : List Nat} {S : (Nat → Bool) → World → Prop}

/-- Does number b wait for number i? -/
def waits (md : Region.Mode) (ops : Array Oper) (b i : Nat) : Bool := match ops[b]? with
  | some ob => ob.after.any fun e => Region.binds md e && e.on == i
  | none => false
/-- Nobody who waits for number i has come up. -/
def Ahead (md : Region.Mode) (ops : Array Oper) (i : Nat) (L : Array Bool) : Prop := ∀ b, waits md ops b i = true → L.getD b false = false
def aheadB (md : Region.Mode) (ops : Array Oper) (i : Nat) (L : Array Bool) : Bool := (List.range ops.size).all fun b => !waits md ops b i || !L.getD b false
theorem ahead_of {i : Nat} {L : Array Bool} (h : aheadB md ops i L = true) : Ahead md ops i L := fun b hb => by
  by_cases hlt : b < ops.size
  · have := List.all_eq_true.1 h b (List.mem_range.2 hlt)
    simp only [hb, Bool.not_true, Bool.false_or, Bool.not_eq_true'] at this
    exact this
  · simp [waits, Array.getElem?_eq_none (Nat.le_of_not_lt hlt)] at hb
/-- Which of the marked operations have come up. -/
def came (B : List Nat) (L : Array Bool) : Nat → Bool := fun b => B.contains b && L.getD b false
theorem came_set {L : Array Bool} {i : Nat} (h : B.contains i = false) : came B (L.setIfInBounds i true) = came B L := by
  funext b
  unfold came
  by_cases hb : i = b
  · subst hb; simp only [h, Bool.false_and]
  · rw [getD_set_ne false hb]
theorem waits_not_ready {L : Array Bool} {i j : Nat} (hj : j ∈ Region.ready md ops L) (hi : L.getD i false = false) : waits md ops j i = false := by
  obtain ⟨_, oj, hoj, hall⟩ := mem_ready.1 hj
  unfold waits
  simp only [hoj]
  rw [Bool.eq_false_iff]
  intro h
  obtain ⟨e, he, hb⟩ := Array.any_eq_true'.1 h
  simp only [Bool.and_eq_true, beq_iff_eq] at hb
  have := hall e he hb.1
  rw [hb.2, hi] at this
  cases this
/-- The worlds that number i may meet. -/
def Meets (md : Region.Mode) (ops : Array Oper) (B : List Nat) (S : (Nat → Bool) → World → Prop) (i : Nat) (w : World) : Prop := ∃ L, Ahead md ops i L ∧ S (came B L) w

def wpAnyG (P : Program) (md : Region.Mode) (ops : Array Oper) (Q : Exit → Act → World → Prop) (B : List Nat) (S : (Nat → Bool) → World → Prop) : Nat → Array Bool → Act → World → Prop
  | 0, listed, a, w => Region.ready md ops listed = [] ∧ Q .normal a w
  | fuel + 1, listed, a, w =>
    (Region.ready md ops listed = [] → Q .normal a w) ∧
    ∀ i ∈ Region.ready md ops listed, wpOp P ops Q i (fun a' w' => S (came B (listed.setIfInBounds i true)) w' ∧ wpAnyG P md ops Q B S fuel (listed.setIfInBounds i true) a' w') a w

theorem wpAny_of_heldG : ∀ (fuel : Nat) (listed : Array Bool) (a : Act) (w : World), wpAnyG P md ops Q B S fuel listed a w → wpAny P md ops Q fuel listed a w
  | 0, _, _, _, h => h
  | fuel + 1, _, _, _, h => ⟨h.1, fun i hi => wpOp_mono (fun a' w' h' => wpAny_of_heldG fuel _ a' w' h'.2) (h.2 i hi)⟩

theorem wpAnyG_first {i : Nat} {oi : Oper} {v : Value} (hi : ops[i]? = some oi) (hsel : ∀ (j : Nat) (o : Oper) cs b, ops[j]? = some o → o.op ≠ .select cs b)
    (hQ : ∀ c a w, Q (.panic c) (a.put oi.dst v) w → Q (.panic c) a w) (hSi : B.contains i = false) :
    ∀ (fuel : Nat) (listed : Array Bool) (a : Act) (w : World),
      (∀ j oj, ops[j]? = some oj → j ≠ i → listed.getD j true = false → (∀ e ∈ oj.after, Region.binds md e = true → e.on ≠ i) → oi.apart ops oj = true) →
      i ∈ Region.ready md ops listed → Ahead md ops i listed → YieldsIf P ops (Meets md ops B S i) oi v a → S (came B listed) w →
      wpAnyG P md ops Q B S fuel (listed.setIfInBounds i true) (a.put oi.dst v) w → wpAnyG P md ops Q B S (fuel + 1) listed a w := by
  intro fuel
  induction fuel with
  | zero =>
    intro listed a w _ hr hcl hy hS H
    refine ⟨fun h => (by rw [h] at hr; cases hr), fun j hj => ?_⟩
    by_cases hji : j = i
    · subst hji
      exact hy.wpOp hi ⟨listed, hcl, hS⟩ ⟨by rw [came_set hSi]; exact hS, H⟩
    · have := ready_mono hj hji
      rw [H.1] at this
      cases this
  | succ fuel ih =>
    intro listed a w hfree hr hcl hy hS H
    refine ⟨fun h => (by rw [h] at hr; cases hr), fun j hj => ?_⟩
    by_cases hji : j = i
    · subst hji; exact hy.wpOp hi ⟨listed, hcl, hS⟩ ⟨by rw [came_set hSi]; exact hS, H⟩
    · have h1 := H.2 j (ready_mono hj hji)
      obtain ⟨hjun, oj, hoj, hall⟩ := mem_ready.1 hj
      have hi0 : listed.getD i false = false := by
        have h0 := (mem_ready.1 hr).1
        rcases Nat.lt_or_ge i listed.size with h' | h'
        · simp [h'] at h0 ⊢; exact h0
        · simp [Array.getElem?_eq_none h']
      have hnot : ∀ e ∈ oj.after, Region.binds md e = true → e.on ≠ i := fun e he hb heq => by
        have h1 := hall e he hb
        rw [heq, hi0] at h1
        cases h1
      have h2 := wpOp_putIf hoj (hfree j oj hoj hji hjun hnot) (fun cs b => hsel i oi cs b hi) (fun cs b => hsel j oj cs b hoj) hQ hy h1
      have hfree' : ∀ k ok, ops[k]? = some ok → k ≠ i → (listed.setIfInBounds j true).getD k true = false →
          (∀ e ∈ ok.after, Region.binds md e = true → e.on ≠ i) → oi.apart ops ok = true := fun k ok hk hki hun hno => by
        refine hfree k ok hk hki ?_ hno
        by_cases hjk : j = k
        · subst hjk; exact hjun
        · rw [getD_set_ne true hjk] at hun; exact hun
      have hcl' : Ahead md ops i (listed.setIfInBounds j true) := fun b hb => by
        have hjb : j ≠ b := fun e => by subst e; rw [waits_not_ready hj hi0] at hb; cases hb
        rw [getD_set_ne false hjb]
        exact hcl b hb
      refine wpOp_mono (fun a' w' h3 => ?_) h2
      have h4 : S (came B (listed.setIfInBounds j true)) w' := by
        have := h3.2.1
        rwa [Array.setIfInBounds_comm _ _ (Ne.symm hji), came_set hSi] at this
      refine ⟨h4, ih (listed.setIfInBounds j true) a' w' hfree' (ready_mono hr (Ne.symm hji)) hcl' h3.1 h4 ?_⟩
      rw [Array.setIfInBounds_comm _ _ hji]
      exact h3.2.2

/-- Take number i first. -/
theorem g_take {i : Nat} {oi : Oper} {v : Value} {fuel : Nat} {listed : Array Bool} {a : Act} {w : World} (hi : ops[i]? = some oi) (hgd : oi.guard = none)
    (hs : Region.noSelect ops = true) (hf : Region.free .any ops listed i = true) (hr : (Region.ready .any ops listed).contains i = true) (hb : B.contains i = false) (ha : aheadB .any ops i listed = true)
    (hQ : ∀ c a w, Q (.panic c) (a.put oi.dst v) w → Q (.panic c) a w) (hS : S (came B listed) w)
    (hy : ∀ L W, Ahead .any ops i L → S (came B L) W → (execOp a.eval oi).run P W = .ok (.value v) W)
    (h : wpAnyG P .any ops Q B S fuel (listed.setIfInBounds i true) (a.put oi.dst v) w) : wpAnyG P .any ops Q B S (fuel + 1) listed a w :=
  wpAnyG_first hi (Region.noSelect_spec hs) hQ hb fuel listed a w (Region.free_spec hi hf) (by simpa using hr) (ahead_of ha)
    (.inl ⟨by simp [Region.wanted, hgd], fun W ⟨L, hL, hW⟩ => hy L W hL hW⟩) hS h
/-- Take number i first: one that a guard lets by. -/
theorem g_takeG {i : Nat} {oi : Oper} {v : Value} {fuel : Nat} {listed : Array Bool} {a : Act} {w : World} (hi : ops[i]? = some oi) (hw : Region.wanted oi (yielded ops a.tmps) = true)
    (hs : Region.noSelect ops = true) (hf : Region.free .any ops listed i = true) (hr : (Region.ready .any ops listed).contains i = true) (hb : B.contains i = false) (ha : aheadB .any ops i listed = true)
    (hQ : ∀ c a w, Q (.panic c) (a.put oi.dst v) w → Q (.panic c) a w) (hS : S (came B listed) w)
    (hy : ∀ L W, Ahead .any ops i L → S (came B L) W → (execOp a.eval oi).run P W = .ok (.value v) W)
    (h : wpAnyG P .any ops Q B S fuel (listed.setIfInBounds i true) (a.put oi.dst v) w) : wpAnyG P .any ops Q B S (fuel + 1) listed a w :=
  wpAnyG_first hi (Region.noSelect_spec hs) hQ hb fuel listed a w (Region.free_spec hi hf) (by simpa using hr) (ahead_of ha)
    (.inl ⟨hw, fun W ⟨L, hL, hW⟩ => hy L W hL hW⟩) hS h
/-- Number i is not wanted: its guard doesn't let it by. -/
theorem g_skip {i : Nat} {oi : Oper} {fuel : Nat} {listed : Array Bool} {a : Act} {w : World} (hi : ops[i]? = some oi) (hw : Region.wanted oi (yielded ops a.tmps) = false)
    (hs : Region.noSelect ops = true) (hf : Region.free .any ops listed i = true) (hr : (Region.ready .any ops listed).contains i = true) (hb : B.contains i = false) (ha : aheadB .any ops i listed = true)
    (hQ : ∀ c a w, Q (.panic c) (a.put oi.dst undef) w → Q (.panic c) a w) (hS : S (came B listed) w)
    (h : wpAnyG P .any ops Q B S fuel (listed.setIfInBounds i true) (a.put oi.dst undef) w) : wpAnyG P .any ops Q B S (fuel + 1) listed a w :=
  wpAnyG_first hi (Region.noSelect_spec hs) hQ hb fuel listed a w (Region.free_spec hi hf) (by simpa using hr) (ahead_of ha) (.inr ⟨hw, rfl⟩) hS h
theorem wpAnyG_all {rs : List Nat} {fuel : Nat} {listed : Array Bool} {a : Act} {w : World} (hr : Region.ready md ops listed = rs) (hne : rs ≠ [])
    (h : ∀ i ∈ rs, wpOp P ops Q i (fun a' w' => S (came B (listed.setIfInBounds i true)) w' ∧ wpAnyG P md ops Q B S fuel (listed.setIfInBounds i true) a' w') a w) : wpAnyG P md ops Q B S (fuel + 1) listed a w :=
  ⟨fun h0 => absurd (hr ▸ h0) hne, hr ▸ h⟩
theorem wpAnyG_done {listed : Array Bool} {a : Act} {w : World} (hr : Region.ready md ops listed = []) (h : Q .normal a w) :
    ∀ fuel, wpAnyG P md ops Q B S fuel listed a w
  | 0 => ⟨hr, h⟩
  | _ + 1 => ⟨fun _ => h, by rw [hr]; simp⟩
/-- The only one that may come up now (or one that a guard lets by). -/
theorem g_one {i : Nat} {o : Oper} {fuel : Nat} {listed : Array Bool} {a : Act} {w : World}
    (ho : ops[i]? = some o) (hw : Region.wanted o (yielded ops a.tmps) = true) (hr : Region.ready .any ops listed = [i])
    (h : ∀ K : Act → World → Prop, (∀ a' w', S (came B (listed.setIfInBounds i true)) w' → wpAnyG P .any ops Q B S fuel (listed.setIfInBounds i true) a' w' → K a' w') → o.wp P a w K Q) : wpAnyG P .any ops Q B S (fuel + 1) listed a w := by
  refine wpAnyG_all hr (by simp) fun j hj => ?_
  obtain rfl : j = i := by simpa using hj
  unfold wpOp
  simp only [ho]
  rw [if_pos hw]
  exact .inl (h _ fun a' w' hS hh => ⟨hS, hh⟩)
/-- Two may come up now: either is taken. -/
theorem g_two {i j : Nat} {o o' : Oper} {fuel : Nat} {listed : Array Bool} {a : Act} {w : World}
    (hr : Region.ready .any ops listed = [i, j]) (ho : ops[i]? = some o) (hw : Region.wanted o (yielded ops a.tmps) = true) (ho' : ops[j]? = some o') (hw' : Region.wanted o' (yielded ops a.tmps) = true)
    (h : ∀ K : Act → World → Prop, (∀ a' w', S (came B (listed.setIfInBounds i true)) w' → wpAnyG P .any ops Q B S fuel (listed.setIfInBounds i true) a' w' → K a' w') → o.wp P a w K Q)
    (h' : ∀ K : Act → World → Prop, (∀ a' w', S (came B (listed.setIfInBounds j true)) w' → wpAnyG P .any ops Q B S fuel (listed.setIfInBounds j true) a' w' → K a' w') → o'.wp P a w K Q) : wpAnyG P .any ops Q B S (fuel + 1) listed a w := by
  refine wpAnyG_all hr (by simp) fun k hk => ?_
  have hk' : k = i ∨ k = j := by simpa using hk
  rcases hk' with rfl | rfl
  · unfold wpOp
    simp only [ho]
    rw [if_pos hw]
    exact .inl (h _ fun a' w' hS hh => ⟨hS, hh⟩)
  · unfold wpOp
    simp only [ho']
    rw [if_pos hw']
    exact .inl (h' _ fun a' w' hS hh => ⟨hS, hh⟩)
theorem wp_region_heldG {id : Nat} {a : Act} {w : World} (B : List Nat) (S : (Nat → Bool) → World → Prop) (hm : P.follows .mixedOrders = true)
    (h : wpAnyG P .any ops Q B S ops.size (Array.replicate ops.size false) a w.drew) : (Code.region id ops true).wp P Q a w :=
  wp_region_any hm (wpAny_of_heldG _ _ _ _ h)
theorem wpIn_region_heldG {n l : Nat} {id : Nat} {a : Act} {w : World} (B : List Nat) (S : (Nat → Bool) → World → Prop) (hm : P.follows .mixedOrders = true) (hd : noDefer ops = true) (hL : ¬ LetsOut Q)
    (h : wpAnyG P .any ops Q B S ops.size (Array.replicate ops.size false) a w.drew) : (Code.region id ops true).wpIn (Fence.wide.inRound l) n P Q a w :=
  wpIn_region_any hm (wpAny_in hd hL _ _ _ _ (wpAny_of_heldG _ _ _ _ h))
/-- What holds behind a region that doesn't panic. -/
def noPanic (Q : Exit → Act → World → Prop) : Exit → Act → World → Prop
  | .panic _, _, _ => False
  | e, a, w => Q e a w
theorem noPanic_out {Q : Exit → Act → World → Prop} : ∀ e a w, noPanic Q e a w → Q e a w
  | .normal, _, _, h => h
  | .ret, _, _, h => h
  | .exit _, _, _, h => h
  | .goto _, _, _, h => h
  | .outgrown, _, _, h => h
theorem noPanic_normal {Q : Exit → Act → World → Prop} {a : Act} {w : World} (h : Q .normal a w) : noPanic Q .normal a w := h
/-- In a function that defers. -/
theorem wp_region_heldN {id : Nat} {a : Act} {w : World} (B : List Nat) (S : (Nat → Bool) → World → Prop) (hm : P.follows .mixedOrders = true)
    (h : wpAnyG P .any ops (noPanic Q) B S ops.size (Array.replicate ops.size false) a w.drew) : (Code.region id ops true).wp P Q a w :=
  wp_mono (wp_region_heldG B S hm h) noPanic_out
/-- A cell of a block that is known whole. -/
theorem Blk.at_ {w : World} {g : Nat} {t : TypeId} {cs : Array Value} (h : Blk w g t cs) (k : Nat) {v : Value} (hk : cs[k]? = some v) : w.cell? ⟨g, k, none⟩ = some v := (h.cell k).trans hk
theorem Blk.farN {w : World} {g : Nat} {t : TypeId} {cs : Array Value} (h : Blk w g t cs) {b o : Nat} (hne : g ≠ b) (u : Value) : Blk (w.setCell ⟨b, o, none⟩ u) g t cs := h.far hne u
theorem own_form {w : World} {base : Nat} {e : TypeId} {size n : Nat} {v : Value} {xs : List Value} (h : w.ownsRow base e size v n xs) : ∃ A c, v = .slice A n c := by
  rcases h.2 with ⟨rfl, rfl⟩ | ⟨g, cap, cur, rfl, _⟩
  · exact ⟨_, _, rfl⟩
  · exact ⟨_, _, rfl⟩
theorem own_row {w : World} {base : Nat} {e : TypeId} {size n : Nat} {v : Value} {xs : List Value} (h : w.ownsRow base e size v n xs) {g : Nat} (hg : v.ownBlock = some g) : base ≤ g ∧ ∃ cs, Blk w g e cs := by
  rcases h.2 with ⟨rfl, _⟩ | ⟨g', cap, cur, rfl, hb, hh, _⟩
  · simp [Value.ownBlock] at hg
  · have : g' = g := by simpa [Value.ownBlock] using hg
    subst this
    exact ⟨hb, cur, hh⟩
theorem own_keep {w w' : World} {base : Nat} {e : TypeId} {size n : Nat} {v : Value} {xs : List Value} (h : w.ownsRow base e size v n xs) (hk : ∀ g, v.ownBlock = some g → w'.heap[g]? = w.heap[g]?) : w'.ownsRow base e size v n xs := by
  obtain ⟨h1, h2⟩ := h
  refine ⟨h1, ?_⟩
  rcases h2 with h2 | ⟨g, cap, cur, rfl, hg, hh, r⟩
  · exact .inl h2
  · exact .inr ⟨g, cap, cur, rfl, hg, (hk g (by simp [Value.ownBlock])).trans hh, r⟩
theorem own_far {w : World} {base : Nat} {e : TypeId} {size n : Nat} {v : Value} {xs : List Value} (h : w.ownsRow base e size v n xs) {p : Addr} (hp : v.ownBlock ≠ some p.block) (u : Value) : (w.setCell p u).ownsRow base e size v n xs :=
  own_keep h fun g hg => heap_setCell_other w p g u (fun e => hp (by rw [hg, e]))
end
theorem Bytes.grow {w w' : World} {A : Option Addr} {l : List UInt8} (h : Bytes w w.heap.size A l) (hb : Below w.heap.size w w') : Bytes w' w'.heap.size A l := (Row.below h hb).more hb.size
/-- Rows of the call's own. -/
theorem own_bytes {w : World} {base : Nat} {e : TypeId} {v : Value} {n : Nat} {l : List UInt8} (h : w.ownsRow base e 1 v n (bs l)) : ∃ A c, v = .slice A n c ∧ n ≤ c ∧ n = l.length ∧ Bytes w w.heap.size A l := by
  obtain ⟨A, c, rfl, hr⟩ := own_slice h
  have hl := h.1
  rw [bs_length, Nat.mul_one] at hl
  refine ⟨A, c, rfl, ?_, hl.symm, hr⟩
  rcases h.2 with ⟨h1, _⟩ | ⟨g, cap, cur, h1, _, _, hc, _⟩
  · simp only [Value.slice.injEq] at h1; omega
  · simp only [Value.slice.injEq] at h1; omega
theorem Bytes.part {w : World} {B : Nat} {b o : Nat} {l : List UInt8} (h : Bytes w B (some ⟨b, o, none⟩) l) (i j : Nat) : Bytes w B (some ⟨b, o + i, none⟩) ((l.take j).drop i) := by
  unfold Bytes; rw [show bs ((l.take j).drop i) = ((bs l).take j).drop i by simp [bs, List.map_drop, List.map_take]]
  exact Row.drop (h.take _) (fun _ _ _ h => by cases h; rfl)
theorem Bytes.head {w : World} {B : Nat} {A : Option Addr} {l : List UInt8} (h : Bytes w B A l) (j : Nat) : Bytes w B A (l.take j) := by
  unfold Bytes; rw [show bs (l.take j) = (bs l).take j by simp [bs, List.map_take]]
  exact h.take _
end Go.Proofs.Ytelplccbcbegkaa.Wd

namespace Go.Proofs.Ytelplccbcbegkaa.Wd
set_option linter.unusedVariables false
open Go Go.RowKit

theorem bdrewN {B : Nat} {a w : World} (h : Below B a w) (n : Nat) : Below B a (w.drewN n) := h.trans ⟨rfl, rfl, rfl, Nat.le_refl _, fun _ _ => rfl⟩
theorem ret_i64' {a b : Int} (h : a = b) : Ending.returned (.int .i64 a) = .returned (.int .i64 b) := by rw [h]
theorem ret_bool {a b : Bool} (h : a = b) : Ending.returned (.bool a) = .returned (.bool b) := by rw [h]
section
variable {w w' : World} {base n c : Nat} {e : TypeId} {A : Option Addr} {xs : List Value}
theorem own_cap' {size m : Nat} (h : w.ownsRow base e size (.slice A n c) m xs) : c ≤ maxLen := by
  rcases h.2 with ⟨h, _⟩ | ⟨g, cap, cur, h, _, _, _, h8, _⟩
  · simp only [Value.slice.injEq] at h; have := h.2.2; subst this; simp [maxLen]
  · simp only [Value.slice.injEq] at h; have := h.2.2; omega
theorem own_le {size : Nat} (h : w.ownsRow base e size (.slice A n c) n xs) : n ≤ c := by
  rcases h.2 with ⟨h, _⟩ | ⟨g, cap, cur, h, _, _, h8, _, _⟩
  · simp only [Value.slice.injEq] at h; omega
  · simp only [Value.slice.injEq] at h; omega
theorem own_rowW (h : w.ownsRow base e 1 (.slice A n c) n xs) : Row w w.heap.size A xs := Row.of_own h
theorem own_len (h : w.ownsRow base e 1 (.slice A n c) n xs) : xs.length = n := by have := h.1; omega
theorem own_belowW {B k : Nat} {v : Value} {m : Nat} (h : w.ownsRow B e k v m xs) (hb : Below w.heap.size w w') : w'.ownsRow B e k v m xs :=
  own_keep h fun g hg => by obtain ⟨_, cs, hc⟩ := own_row h hg; exact hb.block g hc.lt
/-- An own row stays when another one, of another kind, grows. -/
theorem own_otherW {base' size size' m n' : Nat} {e' : TypeId} {v v' : Value} {xs' : List Value} (hne : e ≠ e') (h : w.ownsRow base e size v m xs) (h' : w.ownsRow base' e' size' v' n' xs') (hg : w.grownBy w' v'.ownBlock) : w'.ownsRow base e size v m xs :=
  own_keep h fun g hgv => by
    obtain ⟨_, cs, hb⟩ := own_row h hgv
    refine hg.block g hb.lt (fun hx => ?_)
    obtain ⟨_, cs', hb'⟩ := own_row h' hx.symm
    exact Blk.ne_ (g := g) (g' := g) hb hb' hne rfl
/-- An own row stays when one that lies from a later block on grows. -/
theorem own_later {base' size size' m n' : Nat} {e' : TypeId} {v v' : Value} {xs' : List Value} (h : w.ownsRow base e size v m xs) (hlt : ∀ g, v.ownBlock = some g → g < base') (h' : w.ownsRow base' e' size' v' n' xs') (hg : w.grownBy w' v'.ownBlock) : w'.ownsRow base e size v m xs :=
  own_keep h fun g hgv => by
    obtain ⟨_, cs, hb⟩ := own_row h hgv
    exact hg.block g hb.lt (fun hx => by have := hlt g hgv; have := (own_row h' hx.symm).1; omega)
end
/-- The cells of numbers. -/
def iv (l : List Int) : List Value := l.map (.int .i64 ·)
theorem iv_length (l : List Int) : (iv l).length = l.length := by simp [iv]
theorem iv_append (a b : List Int) : iv (a ++ b) = iv a ++ iv b := List.map_append
theorem iv_get (l : List Int) (j : Nat) (h : j < (iv l).length) : (iv l)[j] = .int .i64 (l[j]'(by simpa [iv] using h)) := by simp [iv]
theorem iv_one (l : List Int) : ∀ u ∈ iv l, u.oneCell' = true := by
  intro u hu
  obtain ⟨_, _, rfl⟩ := List.mem_map.1 hu
  rfl
/-- A slice of numbers that reads as l. -/
def Nums (w : World) (B : Nat) (A : Option Addr) (l : List Int) : Prop := Row w B A (iv l)
theorem Nums.at_ {w : World} {B : Nat} {A : Option Addr} {l : List Int} (h : Nums w B A l) {j : Nat} (hj : j < l.length) :
    ∃ b off, A = some ⟨b, off, none⟩ ∧ b < B ∧ w.cell? ⟨b, off + j, none⟩ = some (.int .i64 l[j]) := by
  obtain ⟨b, off, e, hb, hc⟩ := h j (by simpa [iv] using hj)
  exact ⟨b, off, e, hb, by rw [hc, iv_get]⟩
theorem Nums.below {w w' : World} {B : Nat} {A : Option Addr} {l : List Int} (h : Nums w B A l) (hb : Below B w w') : Nums w' B A l := Row.below h hb
theorem Nums.more {w : World} {B B' : Nat} {A : Option Addr} {l : List Int} (h : Nums w B A l) (hB : B ≤ B') : Nums w B' A l := Row.more h hB
theorem Nums.grow {w w' : World} {A : Option Addr} {l : List Int} (h : Nums w w.heap.size A l) (hb : Below w.heap.size w w') : Nums w' w'.heap.size A l := (Row.below h hb).more hb.size
theorem Nums.of_own {w : World} {base n c : Nat} {e : TypeId} {A : Option Addr} {l : List Int} (h : w.ownsRow base e 1 (.slice A n c) n (iv l)) : Nums w w.heap.size A l ∧ n = l.length ∧ n ≤ c ∧ c ≤ maxLen :=
  ⟨Row.of_own h, by have := own_len h; rw [iv_length] at this; exact this.symm, own_le h, own_cap' h⟩
theorem Nums.head {w : World} {B : Nat} {A : Option Addr} {l : List Int} (h : Nums w B A l) (j : Nat) : Nums w B A (l.take j) := by
  unfold Nums; rw [show iv (l.take j) = (iv l).take j by simp [iv, List.map_take]]
  exact h.take _
end Go.Proofs.Ytelplccbcbegkaa.Wd

namespace Go.Proofs.Ytelplccbcbegkaa.Wd
set_option linter.unusedVariables false
open Go Go.RowKit
theorem wpListIn_append_lies {P : Program} {l k : Nat} (w : World) {ops : Array Oper} {rest : List Oper} {o : Oper} {a : Act} {Q : Exit → Act → World → Prop} (hgd : o.guard = none) (s x : Operand) (t : TypeId)
    (ho : o.op = .call { callee := .builtin .append, args := #[s, x], argTypes := #[t, t] })
    (base : Nat) (e : TypeId) (i : TypeInfo) (z : Value) (size bytes : Nat) (ht : P.underlying t = some (.slice e)) (hi : P.info? e = some i) (hz : i.zero = some z)
    (hsize : i.size = size) (hby : i.bytes = bytes) (hzs : z.cells.size = size) (hsz : 0 < size)
    (v : Value) (n : Nat) (xs : List Value) (hs : a.eval s = v) (hown : w.ownsRow base e size v n xs)
    (ad : Addr) (m c : Nat) (news : List Value) (hx : a.eval x = .slice (some ad) m c) (hl : news.length = m * size) (hnews : ∀ j u, news[j]? = some u → w.cell? (ad.add j) = some u) (h1 : ∀ u ∈ news, u.oneCell' = true)
    (hm : 0 < m) (h63 : n + m ≤ maxLen) (hbytes : (n + m) * bytes ≤ 140737488355328) (hbase : base ≤ w.heap.size) (H : Nat) (hH : w.heap.size = H)
    (h : ∀ g cap w', w'.ownsRow base e size (.slice (some ⟨g, 0, none⟩) (n + m) cap) (n + m) (xs ++ news) → w.grownBy w' v.ownBlock → (v.ownBlock = some g ∨ g = H) → g < w'.heap.size → wpListIn (Fence.wide.inRound l) k P ops Q rest (a.put o.dst (.slice (some ⟨g, 0, none⟩) (n + m) cap)) w') : wpListIn (Fence.wide.inRound l) k P ops Q (o :: rest) a w :=
  wpListIn_plain hgd fun K hK => wp_in (fun c hc => by rw [ho] at hc; cases hc) (wp_append_lies w s x t ho base e i z size bytes ht hi hz hsize hby hzs hsz v n xs hs hown ad m c news hx hl hnews h1 hm h63 hbytes hbase H hH fun g cap w' a1 a2 a3 a4 => hK _ _ (h g cap w' a1 a2 a3 a4))
end Go.Proofs.Ytelplccbcbegkaa.Wd

namespace Go.Proofs.Ytelplccbcbegkaa.Wd
set_option linter.unusedVariables false
open Go Go.RowKit Go.Maps

theorem ikey {z : Int} : WideAt.IsKeyLit (.int .i64 z) := by simp [WideAt.IsKeyLit]
/-- A map that holds one at each number of the list, and no other number. -/
def InMap (D : DataW Unit) (l : List Int) : Prop :=
  Tidy D ∧ (∀ z : Int, D.atKey (.int .i64 z) (.lit (.int .i64 0)) = .lit (.int .i64 (if z ∈ l then 1 else 0))) ∧ (∀ z : Int, has D (.int .i64 z) = decide (z ∈ l)) ∧ Maps.size D = l.length
theorem InMap.nil : InMap (.map []) [] := ⟨tidy_empty, fun z => by simp [DataW.atKey], fun z => by simp [has], rfl⟩
theorem InMap.put {D : DataW Unit} {l : List Int} (h : InMap D l) {x : Int} (hx : x ∉ l) : InMap (D.put (.int .i64 x) (.lit (.int .i64 1))) (l ++ [x]) := by
  obtain ⟨h1, h2, h3, h4⟩ := h
  refine ⟨h1.put ikey _, fun z => ?_, fun z => ?_, ?_⟩
  · by_cases hz : z = x
    · subst hz
      rw [atKey_put_same h1.isMap ikey, if_pos (by simp)]
    · rw [atKey_put_other (by intro e; injection e with _ e; exact hz e), h2 z]
      simp [hz]
  · by_cases hz : z = x
    · subst hz
      rw [has_put_same h1.isMap ikey]; simp
    · rw [has_put_other (by intro e; injection e with _ e; exact hz e), h3 z]
      simp [hz]
  · rw [size_put h1, h3 x, decide_eq_false hx, h4]; simp
theorem InMap.at_ {D : DataW Unit} {l : List Int} (h : InMap D l) {z c : Int} (hat : D.atKey (.int .i64 z) (.lit (.int .i64 0)) = .lit (.int .i64 c)) : c = if z ∈ l then 1 else 0 := by
  rw [h.2.1 z] at hat
  injection hat with hat
  injection hat with _ hat
  exact hat.symm
theorem ownsMap_below {H : Type} {P : Program} {k : TypeId} {R : Value → Option (DataW H × List MemPlace)} {w w' : World} {b n B : Nat} {D : DataW H} (h : w.ownsMap P k R b n D) (hb : Below B w w') (hlt : b < B) : w'.ownsMap P k R b n D := by
  obtain ⟨es, clock, h1, h2⟩ := h
  exact ⟨es, clock, (hb.block b hlt).trans h1, h2⟩

section
variable {P : Program} (w : World)
theorem run_append_own2 (base base' : Nat) (t ty e : TypeId) (i : TypeInfo) (z : Value) (size bytes : Nat) (ht : P.underlying t = some (.slice e)) (hi : P.info? e = some i) (hz : i.zero = some z)
    (hsize : i.size = size) (hby : i.bytes = bytes) (hzs : z.cells.size = size) (hsz : 0 < size)
    (v : Value) (n : Nat) (xs : List Value) (hown : w.ownsRow base e size v n xs)
    (A : Option Addr) (m c : Nat) (news : List Value) (hsrc : w.ownsRow base' e size (.slice A m c) m news) (h1 : ∀ u ∈ news, u.oneCell' = true)
    (h63 : n + m ≤ maxLen) (hbytes : (n + m) * bytes ≤ 140737488355328) (hbase : base ≤ w.heap.size) :
    ∃ v' w', (Builtin.append_ #[t, t] ty #[v, .slice A m c]).run P w = .ok v' w' ∧ w'.ownsRow base e size v' (n + m) (xs ++ news) ∧ w.grownBy w' v.ownBlock ∧ (v'.ownBlock = v.ownBlock ∨ v'.ownBlock = some w.heap.size) := by
  have hl := hsrc.1
  rcases hsrc.2 with ⟨hv, h0⟩ | ⟨g, cap, cur, hv, _, hh, hmc, hcm, hcs, htk⟩
  · cases hv
    have hn : news = [] := List.eq_nil_of_length_eq_zero (by simpa using hl)
    subst hn
    exact ⟨v, w, run_append_nothing w base t ty e i size ht hi v n xs hown 0, by simpa using hown, World.grownBy.refl w _, .inl rfl⟩
  · cases hv
    have hblk : Blk w g e cur := hh
    have hcells : ∀ j u, news[j]? = some u → w.cell? ((⟨g, 0, none⟩ : Addr).add j) = some u := by
      intro j u hu
      have hj := (List.getElem?_eq_some_iff.1 hu).1
      rw [Addr.add_lit, Nat.zero_add, hblk.cell]
      have h2 : (cur.toList.take (m * size))[j]? = some u := by rw [htk]; exact hu
      rw [List.getElem?_take_of_lt (by omega)] at h2
      simpa using h2
    obtain ⟨v', w', hr, h2, h3, _, h5⟩ := run_append_own_at (P := P) w base t ty e i z size bytes ht hi hz hsize hby hzs hsz v n xs hown ⟨g, 0, none⟩ m c news hl hcells h1 h63 hbytes hbase
    exact ⟨v', w', hr, h2, h3, h5⟩
theorem wp_append_own2 {o : Oper} {a : Act} {K : Act → World → Prop} {Q : Exit → Act → World → Prop} (s x : Operand) (t : TypeId)
    (ho : o.op = .call { callee := .builtin .append, args := #[s, x], argTypes := #[t, t] })
    (base base' : Nat) (e : TypeId) (i : TypeInfo) (z : Value) (size bytes : Nat) (ht : P.underlying t = some (.slice e)) (hi : P.info? e = some i) (hz : i.zero = some z)
    (hsize : i.size = size) (hby : i.bytes = bytes) (hzs : z.cells.size = size) (hsz : 0 < size)
    (v : Value) (n : Nat) (xs : List Value) (hs : a.eval s = v) (hown : w.ownsRow base e size v n xs)
    (A : Option Addr) (m c : Nat) (news : List Value) (hx : a.eval x = .slice A m c) (hsrc : w.ownsRow base' e size (.slice A m c) m news) (h1 : ∀ u ∈ news, u.oneCell' = true)
    (h63 : n + m ≤ maxLen) (hbytes : (n + m) * bytes ≤ 140737488355328) (hbase : base ≤ w.heap.size)
    (h : ∀ v' w', w'.ownsRow base e size v' (n + m) (xs ++ news) → w.grownBy w' v.ownBlock → (v'.ownBlock = v.ownBlock ∨ v'.ownBlock = some w.heap.size) → K (a.put o.dst v') w') : o.wp P a w K Q := by
  obtain ⟨v', w', hr, h2, h3, h5⟩ := run_append_own2 (P := P) w base base' t o.type e i z size bytes ht hi hz hsize hby hzs hsz v n xs hown A m c news hsrc h1 h63 hbytes hbase
  unfold Oper.wp execOp
  simp only [ho, resolve, invoke, builtin, Sem.run_bind, Sem.run_pure, Result.andThen_ok, List.map_toArray, List.map_cons, List.map_nil, hs, hx, hr]
  exact h v' w' h2 h3 h5
end
/-- A block that is known whole, of elements of more than one cell, owns its elements. -/
theorem Blk.ownS {w : World} {g base : Nat} {e : TypeId} {cs : Array Value} (h : Blk w g e cs) (hb : base ≤ g) (size n : Nat) (hn : cs.size = n * size) (hm : n ≤ maxLen) :
    w.ownsRow base e size (.slice (some ⟨g, 0, none⟩) n n) n cs.toList :=
  ⟨by simp [hn], .inr ⟨g, n, cs, rfl, hb, h, Nat.le_refl _, hm, hn, by rw [← hn]; exact List.take_length⟩⟩
end Go.Proofs.Ytelplccbcbegkaa.Wd

namespace Go.Proofs.Ytelplccbcbegkaa.Wd
open Go Go.RowKit Go.ChangeShapes Go.WideShapes
section
variable {H : Type} {enc : TypeId × Value → H} {P : Program} {w : World} {base : Nat} {spare : Nat → Bool} {held : Bool}
theorem okWide_array {r : Reach} {b0 : Nat} {t e : TypeId} {n : Nat} {v : Value} (ht : P.underlying t = some (.array n e)) (h : Value.okWide P w r b0 t v) : ∃ cs, v = .agg cs ∧ cs.size = P.cellsOf t := by
  simp only [Value.okWide, ht] at h
  obtain ⟨cs, h1, h2, _⟩ := h
  exact ⟨cs, h1, h2⟩
theorem open_array {r : Reach} {b0 : Nat} {t e : TypeId} {n : Nat} {k : IntKind} {v : Value} {d : DataW H} {p : List MemPlace} (ht : P.underlying t = some (.array n e)) (he : P.underlying e = some (.int k)) (hC : P.cellsOf e = 1) (hCt : P.cellsOf t = n)
    (hv : Value.okWide P w r b0 t v) (h : DataW.Trod enc P w base spare held t v d p) :
    ∃ cs : Array Value, v = .agg cs ∧ cs.size = n ∧ ∀ i (hi : i < cs.size), ∃ x, cs[i] = .int k x ∧ (Lit.int k x).wf = true := by
  obtain ⟨cs, rfl, hsz⟩ := okWide_array ht hv
  obtain ⟨fuel, hf⟩ := h
  obtain ⟨xs, m, _, _, hlen, hxs, hg⟩ := DataW.trod_array ht hf
  refine ⟨cs, rfl, hsz.trans hCt, fun i hi => ?_⟩
  have hi' : i < n := by omega
  have h1 := hg i hi'
  rw [hC, Nat.mul_one] at h1
  have hxi : xs[i]? = some (xs[i]'(by omega)) := List.getElem?_eq_getElem (by omega)
  rw [hxi] at h1
  obtain ⟨x, hx, _, hw⟩ := DataW.trod_int he h1
  have hd : (cs.toList.drop i).take 1 = [cs[i]] := by
    rw [List.drop_eq_getElem_cons (by simpa using hi)]
    simp
  have hx' : (cs.toList.drop i).take 1 = [Value.int k x] := hx
  rw [hd] at hx'
  injection hx' with hx'
  exact ⟨x, hx', hw⟩
end
/-- An array of bytes that came in. -/
theorem bytes_array {cs : Array Value} (h : ∀ i (hi : i < cs.size), ∃ x, cs[i] = .int .u8 x ∧ (Lit.int .u8 x).wf = true) :
    ∃ f : Nat → UInt8, ∀ i (hi : i < cs.size), cs[i] = .int .u8 ((f i).toNat : Nat) := by
  refine ⟨fun i => if hi : i < cs.size then UInt8.ofNat ((h i hi).choose.toNat) else 0, fun i hi => ?_⟩
  have hc := (h i hi).choose_spec
  have hb := bounds_u8 hc.2
  simp only [dif_pos hi]
  rw [UInt8.toNat_ofNat_of_lt' (by simp [UInt8.size]; omega)]
  refine hc.1.trans ?_
  congr 1
  omega
end Go.Proofs.Ytelplccbcbegkaa.Wd
