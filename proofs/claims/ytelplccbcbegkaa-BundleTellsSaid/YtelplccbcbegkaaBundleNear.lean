/-
  A way's words for memory: a map of distances; who is nearer, and the first such one.
-/
import Derived.Test.YtelplccbcbegkaaBundleWayPl
namespace Go.Proofs.Ytelplccbcbegkaa.OrW
set_option linter.unusedVariables false
open Go Go.RowKit Go.Maps Go.Proofs Go.Proofs.Ytelplccbcbegkaa Go.Proofs.Ytelplccbcbegkaa.Wd Go.Proofs.Ytelplccbcbegkaa.GrW Go.Proofs.Ytelplccbcbegkaa.Ord
open Go.Proofs.Ytelplccbcbegkaa.Gr (OK putL outs intos Path E)

/-- A map of numbers that are no less than nought. -/
def FMap (D : DataW Unit) (f : Nat → Nat) : Prop :=
  Tidy D ∧ ∀ z : Nat, D.atKey (.int .i64 (z : Int)) (.lit (.int .i64 0)) = .lit (.int .i64 (f z : Int))
theorem FMap.nil : FMap (.map []) (fun _ => 0) := ⟨tidy_empty, fun z => by simp [DataW.atKey]⟩
theorem FMap.put {D : DataW Unit} {f : Nat → Nat} (h : FMap D f) (x k : Nat) : FMap (D.put (.int .i64 (x : Int)) (.lit (.int .i64 (k : Int)))) (up f x k) := by
  obtain ⟨h1, h2⟩ := h
  refine ⟨h1.put ikey _, fun z => ?_⟩
  unfold up
  by_cases hz : z = x
  · subst hz
    rw [atKey_put_same h1.isMap ikey, if_pos rfl]
  · rw [atKey_put_other (by intro e; injection e with _ e; omega), h2 z, if_neg hz]
theorem FMap.at_ {D : DataW Unit} {f : Nat → Nat} (h : FMap D f) {z : Nat} {c : Int} (hat : D.atKey (.int .i64 (z : Int)) (.lit (.int .i64 0)) = .lit (.int .i64 c)) : c = (f z : Int) := by
  rw [h.2 z] at hat
  injection hat with hat
  injection hat with _ hat
  exact hat.symm
abbrev OF (W : World) (mb n : Nat) (f : Nat → Nat) : Prop := ∃ D, OM W mb n D ∧ FMap D f
theorem OF.look {W : World} {mb n : Nat} {f : Nat → Nat} (h : OF W mb n f) (z : Nat) (hz : z ≤ 1000000) : (Instr.lookup 31 (.map (some mb)) (.int .i64 (z : Int)) false).run Try.prog W = .ok (.int .i64 (f z : Int)) W := by
  obtain ⟨D, h1, h2⟩ := h
  have hkey : keyOf Try.prog 3 (.int .i64 (z : Int)) = some (.int .i64 (z : Int)) := keyOf_int_mk Try.underlying3 (WalkArith.wf_i64 (by omega))
  obtain ⟨c, hrun, hat, -⟩ := h1.lookup_int law Try.underlying31 Try.underlying3 (zeroI W) hkey
  rw [h2.at_ hat] at hrun
  exact hrun
theorem OF.keep {W W' : World} {mb n : Nat} {f : Nat → Nat} (h : OF W mb n f) (hk : W'.heap[mb]? = W.heap[mb]?) : OF W' mb n f := by
  obtain ⟨D, h1, h2⟩ := h
  exact ⟨D, om_keep h1 hk, h2⟩
theorem OF.lt {W : World} {mb n : Nat} {f : Nat → Nat} (h : OF W mb n f) : mb < W.heap.size := by
  obtain ⟨D, h1, h2⟩ := h
  exact om_lt h1
abbrev nearV (bm bx : Nat) : Value := .func (.func 55) #[] #[.pointer (some ⟨bm, 0, none⟩), .pointer (some ⟨bx, 0, none⟩)]
set_option maxRecDepth 100000 in
theorem near_any (W : World) (bm bx mb c a x : Nat) (f : Nat → Nat) (hm : Blk W bm 31 #[.map (some mb)]) (hx : Blk W bx 3 #[.int .i64 (a : Nat)]) (hf : OF W mb c f) (ha : a ≤ 1000000) (hxl : x ≤ 1000000) (hfl : ∀ z, f z ≤ 1000000) :
    Calls Try.prog 55 #[.int .i64 (x : Nat), .pointer (some ⟨bm, 0, none⟩), .pointer (some ⟨bx, 0, none⟩)] W fun e w' => e = .returned (.bool (near f a x)) ∧ Below W.heap.size W w' := by
  have h1 := hm.at_ 0 rfl
  have h2 := hx.at_ 0 rfl
  have h3 := hf.look x hxl
  have h4 := hf.look a ha
  have h5 := hfl x
  have h6 := hfl a
  have HE : Hid (near f a x = (decide (0 < f x) && decide (f x < f a))) := Lib.hid rfl
  have HB := Lib.hid (Below.refl W.heap.size W)
  generalize hr : near f a x = r at *
  generalize f x = fx at *
  generalize f a = fa at *
  clear hm hx hf ha hxl hfl hr
  by_cases c1 : 0 < fx
  · have i1 : (0 : Int) < (fx : Int) := by omega
    by_cases c2 : fx < fa
    · have i2 : (fx : Int) < (fa : Int) := by omega
      obtain rfl : r = true := by rw [HE.out]; simp [c1, c2]
      clear c1 c2 HE
      go_enter Try.func55, Try.ntmps55
      go_wp2_with fail
      go_ret
      exact ⟨rfl, HB.out⟩
    · have i2 : ¬ (fx : Int) < (fa : Int) := by omega
      obtain rfl : r = false := by rw [HE.out]; simp [c2]
      clear c1 c2 HE
      go_enter Try.func55, Try.ntmps55
      go_wp2_with fail
      go_ret
      exact ⟨rfl, HB.out⟩
  · have i1 : ¬ (0 : Int) < (fx : Int) := by omega
    obtain rfl : r = false := by rw [HE.out]; simp [c1]
    clear c1 HE
    go_enter Try.func55, Try.ntmps55
    go_wp2_with fail
    go_ret
    exact ⟨rfl, HB.out⟩
/-- Where the first one is that is nearer. -/
def FirstOut (W : World) (f : Nat → Nat) (a : Nat) (l : List Nat) (e : Ending) (w' : World) : Prop :=
  Below W.heap.size W w' ∧ ((e = .returned (.int .i64 (-1)) ∧ ∀ x ∈ l, near f a x = false) ∨ ∃ (i : Nat) (h : i < l.length), e = .returned (.int .i64 (i : Nat)) ∧ near f a l[i] = true ∧ ∀ j (hj : j < l.length), j < i → near f a l[j] = false)
set_option maxRecDepth 100000 in
set_option maxHeartbeats 1000000 in
theorem first_any (W : World) (bm bx mb c a base : Nat) (f : Nat → Nat) (hm : Blk W bm 31 #[.map (some mb)]) (hx : Blk W bx 3 #[.int .i64 (a : Nat)]) (hf : OF W mb c f) (ha : a ≤ 1000000) (hfl : ∀ z, f z ≤ 1000000)
    (A : Option Addr) (m d : Nat) (l : List Nat) (hl : m = l.length) (hml : m ≤ 1000000) (hlx : ∀ x ∈ l, x ≤ 1000000) (hrow : IRow W base (.slice A m d) (zs l)) :
    Calls Try.prog 57 #[.slice A m d, nearV bm bx] W (FirstOut W f a l) := by
  have HN : Hid (∀ w1, Below W.heap.size W w1 → ∀ x, x ≤ 1000000 → Calls Try.prog 55 #[.int .i64 (x : Nat), .pointer (some ⟨bm, 0, none⟩), .pointer (some ⟨bx, 0, none⟩)] w1 fun e w' => e = .returned (.bool (near f a x)) ∧ Below w1.heap.size w1 w') := Lib.hid fun w1 hb x hxx =>
    near_any w1 bm bx mb c a x f (hm.below hb hm.lt) (hx.below hb hx.lt) (hf.keep (hb.block _ hf.lt)) ha hxx hfl
  have HL := Lib.hid hl
  have HX := Lib.hid hlx
  have HR := Lib.hid hrow
  clear hm hx hf ha hfl hl hlx hrow
  unfold nearV
  go_enter Try.func57, Try.ntmps57
  go_wp2_with fail
  go_loopw [8] (fun i wr => ∃ j : Nat, j ≤ m ∧ i = .int .i64 j ∧ Hid (Below W.heap.size W wr ∧ ∀ k (hk : k < l.length), k < j → near f a l[k] = false)) (fun i _ => m - (intOf i).toNat)
  case atStart => exact ⟨0, Nat.zero_le _, rfl, Lib.hid ⟨Below.refl _ _, fun k _ hk => absurd hk (Nat.not_lt_zero _)⟩⟩
  case round =>
    obtain ⟨j, hj, rfl, HT⟩ := hrel
    by_cases hlt : j < m
    · have hjl : j < l.length := by have := HL.out; omega
      obtain ⟨b, off, rfl, hb, hc0⟩ := HR.out.at_ (i := j) (by rw [zs_length]; exact hjl)
      have hc := (HT.out.1.cell (p := ⟨b, off + j, none⟩) hb).trans hc0
      have ez : (zs l)[j]'(by rw [zs_length]; exact hjl) = ((l[j] : Nat) : Int) := by simp [zs]
      rw [ez] at hc
      have hx1 : l[j] ≤ 1000000 := HX.out _ (List.getElem_mem hjl)
      have HC := Lib.hid (HN.out wr HT.out.1 _ hx1)
      have HJ := Lib.hid hjl
      have HE := Lib.hid (show near f a l[j] = near f a l[j] from rfl)
      generalize hy : l[j] = y at hc HC
      have HY := Lib.hid hy
      have i1 : (0 : Int) ≤ (j : Int) := by omega
      have i2 : (j : Int) < (m : Int) := by omega
      clear hc0 hy hb ez hx1
      go_wp2_with fail
      refine Calls.mono HC.out ?_
      rintro e w' ⟨rfl, hb2⟩
      clear HC
      have HB2 := Lib.hid (HT.out.1.trans (hb2.mono HT.out.1.size))
      clear hb2
      cases hq : near f a y
      · have HT2 : Hid (Below W.heap.size W w' ∧ ∀ k (hk : k < l.length), k < j + 1 → near f a l[k] = false) := Lib.hid ⟨HB2.out, fun k hk hkj => by
          by_cases e : k < j
          · exact HT.out.2 k hk e
          · obtain rfl : k = j := by omega
            exact (congrArg (near f a) HY.out).trans hq⟩
        clear HT hc
        go_wp2_with fail
        go_round
        case rel => exact ⟨j + 1, by omega, by go_num, HT2⟩
        case measure => simp [intOf]; omega
      · have HF : Hid (FirstOut W f a l (.returned (.int .i64 (j : Nat))) w') := Lib.hid ⟨HB2.out, .inr ⟨j, HJ.out, rfl, (congrArg (near f a) HY.out).trans hq, fun k hk hkj => HT.out.2 k hk hkj⟩⟩
        clear HT hc
        go_wp2_with fail
        go_ret
        exact HF.out
    · have hjm : j = m := by omega
      have HF : Hid (FirstOut W f a l (.returned (.int .i64 (-1))) wr) := Lib.hid ⟨HT.out.1, .inl ⟨rfl, fun x hx => by
        obtain ⟨k, hk, e⟩ := List.mem_iff_getElem.1 hx
        subst e
        exact HT.out.2 k hk (by have := HL.out; omega)⟩⟩
      have i2 : ¬ (j : Int) < (m : Int) := by omega
      clear HT hjm
      go_wp2_with fail
      go_ret
      exact HF.out
end Go.Proofs.Ytelplccbcbegkaa.OrW
