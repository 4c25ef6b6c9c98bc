/-
  The walk of DiskCut.
-/
import Derived.Test.YtgajgjijnpigoaaDiskAwake
import Derived.Test.YtgajgjijnpigoaaDiskPl
namespace Go.Proofs.Ytgajgjijnpigoaa.Dk
set_option linter.unusedVariables false
open Go Go.RowKit Go.Shelf Go.Proofs Go.Proofs.Ytgajgjijnpigoaa Go.Proofs.Ytgajgjijnpigoaa.Wd

/-- A row of the caller's own, beside a disk. -/
def Mine (W : World) (base : Nat) (F : Nat → Prop) (v : Value) (l : List UInt8) : Prop := W.ownsRow base 5 1 v l.length (bs l) ∧ ∀ r, v.ownBlock = some r → ¬ F r
section
variable {W W' : World} {base : Nat} {F F' G : Nat → Prop} {g : Nat} {s : DS} {v : Value} {l : List UInt8}
theorem Mine.next (h : Mine W base F v l) (hf : Fr F W W') (hF : ∀ k, F' k → F k ∨ W.heap.size ≤ k) {b : Nat} (_ : At W b F g s) : Mine W' base F' v l := by
  refine ⟨own_keep h.1 fun r hr => ?_, fun r hr hf' => ?_⟩
  · obtain ⟨_, cs, hc⟩ := own_row h.1 hr
    exact hf.block r hc.lt (h.2 r hr)
  · obtain ⟨_, cs, hc⟩ := own_row h.1 hr
    rcases hF r hf' with h1 | h1
    · exact h.2 r hr h1
    · have := hc.lt; omega
theorem Mine.below (h : Mine W base F v l) (hb : Below W.heap.size W W') : Mine W' base F v l := ⟨own_belowW h.1 hb, h.2⟩
theorem Mine.bytes {A : Option Addr} {n c : Nat} (h : Mine W base F (.slice A n c) l) : Bytes W W.heap.size A l := by
  obtain ⟨A', c', e, -, -, hr⟩ := own_bytes h.1
  cases e
  exact hr
end
theorem args_out {W : World} {B b : Nat} {A : Option Addr} {l : List UInt8} {F : Nat → Prop} {g : Nat} {s : DS} (h : Bytes W B A l) (hA : At W b F g s) (hb : B < b) : l ≠ [] → ∀ x o, A = some ⟨x, o, none⟩ → ¬ F x := fun hne x o e hf => by
  rcases l with _ | ⟨u, r⟩
  · exact hne rfl
  · obtain ⟨y, off, e', hy, _⟩ := h.at_ (j := 0) (by simp)
    rw [e] at e'
    cases e'
    have := (hA.lt hf).1
    omega
theorem At.base {W : World} {b b' : Nat} {F : Nat → Prop} {g : Nat} {s : DS} (h : At W b F g s) (hb : b' ≤ b) : At W b' F g s := by
  obtain ⟨cs, v, vf, R, fb, h⟩ := h
  exact ⟨cs, v, vf, R, fb, h.ok, h.blk, h.cells, h.row, h.fuse, h.fg, h.fR, h.ff, h.apart, fun k hk => ⟨Nat.le_trans hb (h.lo k hk).1, (h.lo k hk).2⟩⟩
theorem Pl.re {s : DS} {cap : Nat} {al al' : Nat → List UInt8} {sf sf' : Nat → Nat} (h : Pl s cap al sf) (h0 : al 0 = al' 0) (h1 : al 1 = al' 1) (k0 : sf 0 = sf' 0) (k1 : sf 1 = sf' 1) : Pl s cap al' sf' :=
  ⟨h.cap, fun i hi => by rcases (by omega : i = 0 ∨ i = 1) with rfl | rfl; exact (h.all 0 hi).trans h0; exact (h.all 1 hi).trans h1, fun i hi => by rcases (by omega : i = 0 ∨ i = 1) with rfl | rfl; exact (h.safe 0 hi).trans k0; exact (h.safe 1 hi).trans k1, h.fuse, h.dead⟩
def on1 {α : Type} (z x : α) : Nat → α := fun i => if i = 1 then x else z
theorem tmod_lt (a n : Nat) (hn : 0 < n) : ∃ i : Nat, (a : Int).tmod (n : Int) = (i : Int) ∧ i < n :=
  ⟨a % n, by rw [Int.tmod_eq_emod_of_nonneg (Int.natCast_nonneg _)]; rfl, Nat.mod_lt _ hn⟩

set_option maxRecDepth 100000 in
set_option maxHeartbeats 4000000 in
theorem cut_walk (A B : Option Addr) (c d : Nat) (l0 m0 : List UInt8) (n m : Nat) (hn : n = l0.length) (hm : m = m0.length) (hnc : n ≤ c) (hmd : m ≤ d) (hcm : c ≤ maxLen) (hdm : d ≤ maxLen) (at' : Nat) (hat : at' < 256) (keep : Nat → Int) (hkp : ∀ i, i < 4 → -9223372036854775808 ≤ keep i ∧ keep i ≤ 9223372036854775807) (w : World)
    (hI : Bytes w w.heap.size A l0) (hJ : Bytes w w.heap.size B m0) :
    Calls Try.prog 5 #[.slice A n c, .slice B m d, .int .u8 at', .agg #[.int .i64 (keep 0), .int .i64 (keep 1), .int .i64 (keep 2), .int .i64 (keep 3)]] w fun e w' => e = .returned (.bool true) ∧ Below w.heap.size w w' := by
  unfold maxLen at hcm hdm
  have HKP := Lib.hid hkp
  have hzk := Blk.new_ w 24 #[.int .i64 (keep 0), .int .i64 (keep 1), .int .i64 (keep 2), .int .i64 (keep 3)] rfl
  have hB := (Below.refl w.heap.size w).alloc (Nat.le_refl _) (.cells #[.int .i64 (keep 0), .int .i64 (keep 1), .int .i64 (keep 2), .int .i64 (keep 3)] 24)
  obtain ⟨la, hla⟩ : ∃ la, la = min n 60 := ⟨_, rfl⟩
  obtain ⟨lb, hlb⟩ : ∃ lb, lb = min m 60 := ⟨_, rfl⟩
  have HLA : Hid (la = (l0.take la).length) := Lib.hid (by rw [List.length_take]; omega)
  have HLB : Hid (lb = (m0.take lb).length) := Lib.hid (by rw [List.length_take]; omega)
  have HI : Hid (∀ W, Below w.heap.size w W → Bytes W w.heap.size A (l0.take la)) := Lib.hid fun W hW => Bytes.head (show Bytes W w.heap.size A l0 from Row.below hI hW) la
  have HJ : Hid (∀ W, Below w.heap.size w W → Bytes W w.heap.size B (m0.take lb)) := Lib.hid fun W hW => Bytes.head (show Bytes W w.heap.size B m0 from Row.below hJ hW) lb
  clear hI hJ hn hm hkp
  go_enter Try.func5, Try.ntmps5
  go_upto_region 1 with fail
  generalize w.alloc (.cells #[.int .i64 (keep 0), .int .i64 (keep 1), .int .i64 (keep 2), .int .i64 (keep 3)] 24) = w1 at *
  go_cut [0, 1] (fun v0 v1 wx => v0 = .slice A la c ∧ v1 = .slice B lb d ∧ wx = w1.drew)
  case first =>
    by_cases h1 : 60 < n
    · obtain rfl : la = 60 := by omega
      have u1 : (60 : Int) < (n : Int) := by omega
      have u1' : (60 : Int) ≤ (c : Int) := by omega
      by_cases h2 : 60 < m
      · obtain rfl : lb = 60 := by omega
        have u2 : (60 : Int) < (m : Int) := by omega
        have u2' : (60 : Int) ≤ (d : Int) := by omega
        clear hla hlb
        refine wp_region_heldG [] (fun _ _ => True) (by kernel_rfl) ?_
        change wpAnyG _ _ _ _ _ _ 12 _ _ (World.drew _)
        refine g_take (i := 0) rfl rfl (by kernel_rfl) (by kernel_rfl) (by kernel_rfl) (by kernel_rfl) (by kernel_rfl) (fun _ _ _ h => h) trivial (fun L W hL hW => by go_simp; rfl) ?_
        refine g_take (i := 1) rfl rfl (by kernel_rfl) (by kernel_rfl) (by kernel_rfl) (by kernel_rfl) (by kernel_rfl) (fun _ _ _ h => h) trivial (fun L W hL hW => by go_simp; rfl) ?_
        refine g_take (i := 2) rfl rfl (by kernel_rfl) (by kernel_rfl) (by kernel_rfl) (by kernel_rfl) (by kernel_rfl) (fun _ _ _ h => h) trivial (fun L W hL hW => by go_simp; rfl) ?_
        refine g_take (i := 5) rfl rfl (by kernel_rfl) (by kernel_rfl) (by kernel_rfl) (by kernel_rfl) (by kernel_rfl) (fun _ _ _ h => h) trivial (fun L W hL hW => by go_simp; rfl) ?_
        refine g_take (i := 6) rfl rfl (by kernel_rfl) (by kernel_rfl) (by kernel_rfl) (by kernel_rfl) (by kernel_rfl) (fun _ _ _ h => h) trivial (fun L W hL hW => by go_simp; rfl) ?_
        refine g_take (i := 7) rfl rfl (by kernel_rfl) (by kernel_rfl) (by kernel_rfl) (by kernel_rfl) (by kernel_rfl) (fun _ _ _ h => h) trivial (fun L W hL hW => by go_simp; rfl) ?_
        refine g_two (i := 3) (j := 8) (by kernel_rfl) rfl rfl rfl rfl (fun K hK => ?_) (fun K hK => ?_)
        · go_simp
          refine hK _ _ trivial ?_
          clear hK K
          refine g_take (i := 4) rfl rfl (by kernel_rfl) (by kernel_rfl) (by kernel_rfl) (by kernel_rfl) (by kernel_rfl) (fun _ _ _ h => h) trivial (fun L W hL hW => by go_simp; rfl) ?_
          refine g_take (i := 10) rfl rfl (by kernel_rfl) (by kernel_rfl) (by kernel_rfl) (by kernel_rfl) (by kernel_rfl) (fun _ _ _ h => h) trivial (fun L W hL hW => by go_simp; rfl) ?_
          refine g_one (i := 8) rfl rfl (by kernel_rfl) fun K hK => ?_
          go_simp
          refine hK _ _ trivial ?_
          clear hK K
          refine g_take (i := 9) rfl rfl (by kernel_rfl) (by kernel_rfl) (by kernel_rfl) (by kernel_rfl) (by kernel_rfl) (fun _ _ _ h => h) trivial (fun L W hL hW => by go_simp; rfl) ?_
          refine g_take (i := 11) rfl rfl (by kernel_rfl) (by kernel_rfl) (by kernel_rfl) (by kernel_rfl) (by kernel_rfl) (fun _ _ _ h => h) trivial (fun L W hL hW => by go_simp; rfl) ?_
          refine wpAnyG_done (by kernel_rfl) ?_ _
          go_simp
          go_wp2_with fail
          go_meet
          exact ⟨rfl, rfl, rfl⟩
        · go_simp
          refine hK _ _ trivial ?_
          clear hK K
          refine g_take (i := 9) rfl rfl (by kernel_rfl) (by kernel_rfl) (by kernel_rfl) (by kernel_rfl) (by kernel_rfl) (fun _ _ _ h => h) trivial (fun L W hL hW => by go_simp; rfl) ?_
          refine g_one (i := 3) rfl rfl (by kernel_rfl) fun K hK => ?_
          go_simp
          refine hK _ _ trivial ?_
          clear hK K
          refine g_take (i := 4) rfl rfl (by kernel_rfl) (by kernel_rfl) (by kernel_rfl) (by kernel_rfl) (by kernel_rfl) (fun _ _ _ h => h) trivial (fun L W hL hW => by go_simp; rfl) ?_
          refine g_take (i := 10) rfl rfl (by kernel_rfl) (by kernel_rfl) (by kernel_rfl) (by kernel_rfl) (by kernel_rfl) (fun _ _ _ h => h) trivial (fun L W hL hW => by go_simp; rfl) ?_
          refine g_take (i := 11) rfl rfl (by kernel_rfl) (by kernel_rfl) (by kernel_rfl) (by kernel_rfl) (by kernel_rfl) (fun _ _ _ h => h) trivial (fun L W hL hW => by go_simp; rfl) ?_
          refine wpAnyG_done (by kernel_rfl) ?_ _
          go_simp
          go_wp2_with fail
          go_meet
          exact ⟨rfl, rfl, rfl⟩

      · obtain rfl : lb = m := by omega
        have u2 : ¬ (60 : Int) < (lb : Int) := by omega
        have u2' : (lb : Int) ≤ (d : Int) := by omega
        clear hla hlb
        refine wp_region_heldG [] (fun _ _ => True) (by kernel_rfl) ?_
        change wpAnyG _ _ _ _ _ _ 12 _ _ (World.drew _)
        refine g_take (i := 0) rfl rfl (by kernel_rfl) (by kernel_rfl) (by kernel_rfl) (by kernel_rfl) (by kernel_rfl) (fun _ _ _ h => h) trivial (fun L W hL hW => by go_simp; rfl) ?_
        refine g_take (i := 1) rfl rfl (by kernel_rfl) (by kernel_rfl) (by kernel_rfl) (by kernel_rfl) (by kernel_rfl) (fun _ _ _ h => h) trivial (fun L W hL hW => by go_simp; rfl) ?_
        refine g_take (i := 2) rfl rfl (by kernel_rfl) (by kernel_rfl) (by kernel_rfl) (by kernel_rfl) (by kernel_rfl) (fun _ _ _ h => h) trivial (fun L W hL hW => by go_simp; rfl) ?_
        refine g_take (i := 5) rfl rfl (by kernel_rfl) (by kernel_rfl) (by kernel_rfl) (by kernel_rfl) (by kernel_rfl) (fun _ _ _ h => h) trivial (fun L W hL hW => by go_simp; rfl) ?_
        refine g_take (i := 6) rfl rfl (by kernel_rfl) (by kernel_rfl) (by kernel_rfl) (by kernel_rfl) (by kernel_rfl) (fun _ _ _ h => h) trivial (fun L W hL hW => by go_simp; rfl) ?_
        refine g_take (i := 7) rfl rfl (by kernel_rfl) (by kernel_rfl) (by kernel_rfl) (by kernel_rfl) (by kernel_rfl) (fun _ _ _ h => h) trivial (fun L W hL hW => by go_simp; rfl) ?_
        refine g_two (i := 3) (j := 8) (by kernel_rfl) rfl rfl rfl rfl (fun K hK => ?_) (fun K hK => ?_)
        · go_simp
          refine hK _ _ trivial ?_
          clear hK K
          refine g_take (i := 4) rfl rfl (by kernel_rfl) (by kernel_rfl) (by kernel_rfl) (by kernel_rfl) (by kernel_rfl) (fun _ _ _ h => h) trivial (fun L W hL hW => by go_simp; rfl) ?_
          refine g_take (i := 10) rfl rfl (by kernel_rfl) (by kernel_rfl) (by kernel_rfl) (by kernel_rfl) (by kernel_rfl) (fun _ _ _ h => h) trivial (fun L W hL hW => by go_simp; rfl) ?_
          refine g_one (i := 8) rfl rfl (by kernel_rfl) fun K hK => ?_
          go_simp
          refine hK _ _ trivial ?_
          clear hK K
          refine g_take (i := 9) rfl rfl (by kernel_rfl) (by kernel_rfl) (by kernel_rfl) (by kernel_rfl) (by kernel_rfl) (fun _ _ _ h => h) trivial (fun L W hL hW => by go_simp; rfl) ?_
          refine g_take (i := 11) rfl rfl (by kernel_rfl) (by kernel_rfl) (by kernel_rfl) (by kernel_rfl) (by kernel_rfl) (fun _ _ _ h => h) trivial (fun L W hL hW => by go_simp; rfl) ?_
          refine wpAnyG_done (by kernel_rfl) ?_ _
          go_simp
          go_wp2_with fail
          go_meet
          exact ⟨rfl, rfl, rfl⟩
        · go_simp
          refine hK _ _ trivial ?_
          clear hK K
          refine g_take (i := 9) rfl rfl (by kernel_rfl) (by kernel_rfl) (by kernel_rfl) (by kernel_rfl) (by kernel_rfl) (fun _ _ _ h => h) trivial (fun L W hL hW => by go_simp; rfl) ?_
          refine g_one (i := 3) rfl rfl (by kernel_rfl) fun K hK => ?_
          go_simp
          refine hK _ _ trivial ?_
          clear hK K
          refine g_take (i := 4) rfl rfl (by kernel_rfl) (by kernel_rfl) (by kernel_rfl) (by kernel_rfl) (by kernel_rfl) (fun _ _ _ h => h) trivial (fun L W hL hW => by go_simp; rfl) ?_
          refine g_take (i := 10) rfl rfl (by kernel_rfl) (by kernel_rfl) (by kernel_rfl) (by kernel_rfl) (by kernel_rfl) (fun _ _ _ h => h) trivial (fun L W hL hW => by go_simp; rfl) ?_
          refine g_take (i := 11) rfl rfl (by kernel_rfl) (by kernel_rfl) (by kernel_rfl) (by kernel_rfl) (by kernel_rfl) (fun _ _ _ h => h) trivial (fun L W hL hW => by go_simp; rfl) ?_
          refine wpAnyG_done (by kernel_rfl) ?_ _
          go_simp
          go_wp2_with fail
          go_meet
          exact ⟨rfl, rfl, rfl⟩

    · obtain rfl : la = n := by omega
      have u1 : ¬ (60 : Int) < (la : Int) := by omega
      have u1' : (la : Int) ≤ (c : Int) := by omega
      by_cases h2 : 60 < m
      · obtain rfl : lb = 60 := by omega
        have u2 : (60 : Int) < (m : Int) := by omega
        have u2' : (60 : Int) ≤ (d : Int) := by omega
        clear hla hlb
        refine wp_region_heldG [] (fun _ _ => True) (by kernel_rfl) ?_
        change wpAnyG _ _ _ _ _ _ 12 _ _ (World.drew _)
        refine g_take (i := 0) rfl rfl (by kernel_rfl) (by kernel_rfl) (by kernel_rfl) (by kernel_rfl) (by kernel_rfl) (fun _ _ _ h => h) trivial (fun L W hL hW => by go_simp; rfl) ?_
        refine g_take (i := 1) rfl rfl (by kernel_rfl) (by kernel_rfl) (by kernel_rfl) (by kernel_rfl) (by kernel_rfl) (fun _ _ _ h => h) trivial (fun L W hL hW => by go_simp; rfl) ?_
        refine g_take (i := 2) rfl rfl (by kernel_rfl) (by kernel_rfl) (by kernel_rfl) (by kernel_rfl) (by kernel_rfl) (fun _ _ _ h => h) trivial (fun L W hL hW => by go_simp; rfl) ?_
        refine g_take (i := 5) rfl rfl (by kernel_rfl) (by kernel_rfl) (by kernel_rfl) (by kernel_rfl) (by kernel_rfl) (fun _ _ _ h => h) trivial (fun L W hL hW => by go_simp; rfl) ?_
        refine g_take (i := 6) rfl rfl (by kernel_rfl) (by kernel_rfl) (by kernel_rfl) (by kernel_rfl) (by kernel_rfl) (fun _ _ _ h => h) trivial (fun L W hL hW => by go_simp; rfl) ?_
        refine g_take (i := 7) rfl rfl (by kernel_rfl) (by kernel_rfl) (by kernel_rfl) (by kernel_rfl) (by kernel_rfl) (fun _ _ _ h => h) trivial (fun L W hL hW => by go_simp; rfl) ?_
        refine g_two (i := 3) (j := 8) (by kernel_rfl) rfl rfl rfl rfl (fun K hK => ?_) (fun K hK => ?_)
        · go_simp
          refine hK _ _ trivial ?_
          clear hK K
          refine g_take (i := 4) rfl rfl (by kernel_rfl) (by kernel_rfl) (by kernel_rfl) (by kernel_rfl) (by kernel_rfl) (fun _ _ _ h => h) trivial (fun L W hL hW => by go_simp; rfl) ?_
          refine g_take (i := 10) rfl rfl (by kernel_rfl) (by kernel_rfl) (by kernel_rfl) (by kernel_rfl) (by kernel_rfl) (fun _ _ _ h => h) trivial (fun L W hL hW => by go_simp; rfl) ?_
          refine g_one (i := 8) rfl rfl (by kernel_rfl) fun K hK => ?_
          go_simp
          refine hK _ _ trivial ?_
          clear hK K
          refine g_take (i := 9) rfl rfl (by kernel_rfl) (by kernel_rfl) (by kernel_rfl) (by kernel_rfl) (by kernel_rfl) (fun _ _ _ h => h) trivial (fun L W hL hW => by go_simp; rfl) ?_
          refine g_take (i := 11) rfl rfl (by kernel_rfl) (by kernel_rfl) (by kernel_rfl) (by kernel_rfl) (by kernel_rfl) (fun _ _ _ h => h) trivial (fun L W hL hW => by go_simp; rfl) ?_
          refine wpAnyG_done (by kernel_rfl) ?_ _
          go_simp
          go_wp2_with fail
          go_meet
          exact ⟨rfl, rfl, rfl⟩
        · go_simp
          refine hK _ _ trivial ?_
          clear hK K
          refine g_take (i := 9) rfl rfl (by kernel_rfl) (by kernel_rfl) (by kernel_rfl) (by kernel_rfl) (by kernel_rfl) (fun _ _ _ h => h) trivial (fun L W hL hW => by go_simp; rfl) ?_
          refine g_one (i := 3) rfl rfl (by kernel_rfl) fun K hK => ?_
          go_simp
          refine hK _ _ trivial ?_
          clear hK K
          refine g_take (i := 4) rfl rfl (by kernel_rfl) (by kernel_rfl) (by kernel_rfl) (by kernel_rfl) (by kernel_rfl) (fun _ _ _ h => h) trivial (fun L W hL hW => by go_simp; rfl) ?_
          refine g_take (i := 10) rfl rfl (by kernel_rfl) (by kernel_rfl) (by kernel_rfl) (by kernel_rfl) (by kernel_rfl) (fun _ _ _ h => h) trivial (fun L W hL hW => by go_simp; rfl) ?_
          refine g_take (i := 11) rfl rfl (by kernel_rfl) (by kernel_rfl) (by kernel_rfl) (by kernel_rfl) (by kernel_rfl) (fun _ _ _ h => h) trivial (fun L W hL hW => by go_simp; rfl) ?_
          refine wpAnyG_done (by kernel_rfl) ?_ _
          go_simp
          go_wp2_with fail
          go_meet
          exact ⟨rfl, rfl, rfl⟩

      · obtain rfl : lb = m := by omega
        have u2 : ¬ (60 : Int) < (lb : Int) := by omega
        have u2' : (lb : Int) ≤ (d : Int) := by omega
        clear hla hlb
        refine wp_region_heldG [] (fun _ _ => True) (by kernel_rfl) ?_
        change wpAnyG _ _ _ _ _ _ 12 _ _ (World.drew _)
        refine g_take (i := 0) rfl rfl (by kernel_rfl) (by kernel_rfl) (by kernel_rfl) (by kernel_rfl) (by kernel_rfl) (fun _ _ _ h => h) trivial (fun L W hL hW => by go_simp; rfl) ?_
        refine g_take (i := 1) rfl rfl (by kernel_rfl) (by kernel_rfl) (by kernel_rfl) (by kernel_rfl) (by kernel_rfl) (fun _ _ _ h => h) trivial (fun L W hL hW => by go_simp; rfl) ?_
        refine g_take (i := 2) rfl rfl (by kernel_rfl) (by kernel_rfl) (by kernel_rfl) (by kernel_rfl) (by kernel_rfl) (fun _ _ _ h => h) trivial (fun L W hL hW => by go_simp; rfl) ?_
        refine g_take (i := 5) rfl rfl (by kernel_rfl) (by kernel_rfl) (by kernel_rfl) (by kernel_rfl) (by kernel_rfl) (fun _ _ _ h => h) trivial (fun L W hL hW => by go_simp; rfl) ?_
        refine g_take (i := 6) rfl rfl (by kernel_rfl) (by kernel_rfl) (by kernel_rfl) (by kernel_rfl) (by kernel_rfl) (fun _ _ _ h => h) trivial (fun L W hL hW => by go_simp; rfl) ?_
        refine g_take (i := 7) rfl rfl (by kernel_rfl) (by kernel_rfl) (by kernel_rfl) (by kernel_rfl) (by kernel_rfl) (fun _ _ _ h => h) trivial (fun L W hL hW => by go_simp; rfl) ?_
        refine g_two (i := 3) (j := 8) (by kernel_rfl) rfl rfl rfl rfl (fun K hK => ?_) (fun K hK => ?_)
        · go_simp
          refine hK _ _ trivial ?_
          clear hK K
          refine g_take (i := 4) rfl rfl (by kernel_rfl) (by kernel_rfl) (by kernel_rfl) (by kernel_rfl) (by kernel_rfl) (fun _ _ _ h => h) trivial (fun L W hL hW => by go_simp; rfl) ?_
          refine g_take (i := 10) rfl rfl (by kernel_rfl) (by kernel_rfl) (by kernel_rfl) (by kernel_rfl) (by kernel_rfl) (fun _ _ _ h => h) trivial (fun L W hL hW => by go_simp; rfl) ?_
          refine g_one (i := 8) rfl rfl (by kernel_rfl) fun K hK => ?_
          go_simp
          refine hK _ _ trivial ?_
          clear hK K
          refine g_take (i := 9) rfl rfl (by kernel_rfl) (by kernel_rfl) (by kernel_rfl) (by kernel_rfl) (by kernel_rfl) (fun _ _ _ h => h) trivial (fun L W hL hW => by go_simp; rfl) ?_
          refine g_take (i := 11) rfl rfl (by kernel_rfl) (by kernel_rfl) (by kernel_rfl) (by kernel_rfl) (by kernel_rfl) (fun _ _ _ h => h) trivial (fun L W hL hW => by go_simp; rfl) ?_
          refine wpAnyG_done (by kernel_rfl) ?_ _
          go_simp
          go_wp2_with fail
          go_meet
          exact ⟨rfl, rfl, rfl⟩
        · go_simp
          refine hK _ _ trivial ?_
          clear hK K
          refine g_take (i := 9) rfl rfl (by kernel_rfl) (by kernel_rfl) (by kernel_rfl) (by kernel_rfl) (by kernel_rfl) (fun _ _ _ h => h) trivial (fun L W hL hW => by go_simp; rfl) ?_
          refine g_one (i := 3) rfl rfl (by kernel_rfl) fun K hK => ?_
          go_simp
          refine hK _ _ trivial ?_
          clear hK K
          refine g_take (i := 4) rfl rfl (by kernel_rfl) (by kernel_rfl) (by kernel_rfl) (by kernel_rfl) (by kernel_rfl) (fun _ _ _ h => h) trivial (fun L W hL hW => by go_simp; rfl) ?_
          refine g_take (i := 10) rfl rfl (by kernel_rfl) (by kernel_rfl) (by kernel_rfl) (by kernel_rfl) (by kernel_rfl) (fun _ _ _ h => h) trivial (fun L W hL hW => by go_simp; rfl) ?_
          refine g_take (i := 11) rfl rfl (by kernel_rfl) (by kernel_rfl) (by kernel_rfl) (by kernel_rfl) (by kernel_rfl) (fun _ _ _ h => h) trivial (fun L W hL hW => by go_simp; rfl) ?_
          refine wpAnyG_done (by kernel_rfl) ?_ _
          go_simp
          go_wp2_with fail
          go_meet
          exact ⟨rfl, rfl, rfl⟩

  case rest =>
  obtain ⟨rfl, rfl, rfl⟩ := hcut
  have ha60 : la ≤ 60 := by omega
  have hb60 : lb ≤ 60 := by omega
  have hac : la ≤ c := by omega
  have hbd : lb ≤ d := by omega
  clear hla hlb hnc hmd
  obtain ⟨a, ha⟩ : ∃ a, a = l0.take la := ⟨_, rfl⟩
  obtain ⟨b, hb⟩ : ∃ b, b = m0.take lb := ⟨_, rfl⟩
  rw [← ha] at HLA HI
  rw [← hb] at HLB HJ
  clear ha hb
  have hB := hB.drew
  have hZ := hzk.drew
  have hzl : w.heap.size < w1.drew.heap.size := hZ.lt
  clear hzk
  generalize w1.drew = w2 at *
  go_wp2_with fail
  refine Calls.mono (new_any 1000 (by decide) w2) ?_
  rintro e w0 ⟨rfl, hA, hb0⟩
  have hB0 := hB.trans (hb0.mono hB.size)
  have hZ0 := hZ.below hb0 hZ.lt
  have hA := hA.base (b' := w.heap.size + 1) hzl
  clear hB hZ hb0
  have hB := hB0
  have hZ := hZ0
  clear hB0 hZ0
  obtain ⟨g, hg⟩ : ∃ g, g = w2.heap.size := ⟨_, rfl⟩
  rw [← hg] at hA ⊢
  obtain ⟨F, hF0⟩ : ∃ F : Nat → Prop, F = (fun j => j = g) := ⟨_, rfl⟩
  rw [← hF0] at hA
  clear hg hF0 hzl
  -- what each call answers, plainly
  have P0 := Pl.new_ 1000
  obtain ⟨c1, P1⟩ := P0.append (i := 1) (by omega) (b := a) (by simp; have := HLA.out; omega)
  have c1 : (appD (newD 1000) 1 a).1 = 0 := c1
  obtain ⟨s1, hs1⟩ : ∃ s1, s1 = (appD (newD 1000) 1 a).2 := ⟨_, rfl⟩
  have P1 : Pl s1 1000 (on1 [] a) (on1 0 0) := by rw [hs1]; exact Pl.re P1 rfl rfl rfl rfl
  obtain ⟨c2, P2⟩ := P1.sync (i := 1) (by omega)
  have c2 : (syD s1 1).1 = 0 := c2
  obtain ⟨s2, hs2⟩ : ∃ s2, s2 = (syD s1 1).2 := ⟨_, rfl⟩
  have P2 : Pl s2 1000 (on1 [] a) (on1 0 la) := by rw [hs2, HLA.out]; exact Pl.re P2 rfl rfl rfl rfl
  obtain ⟨c3, P3⟩ := P2.append (i := 1) (by omega) (b := b) (by show b.length ≤ 1000 - 0 - a.length; have := HLA.out; have := HLB.out; omega)
  have c3 : (appD s2 1 b).1 = 0 := c3
  obtain ⟨s3, hs3⟩ : ∃ s3, s3 = (appD s2 1 b).2 := ⟨_, rfl⟩
  have P3 : Pl s3 1000 (on1 [] (a ++ b)) (on1 0 la) := by rw [hs3]; exact Pl.re P3 rfl rfl rfl rfl
  have hlab : (a ++ b).length = la + lb := by rw [List.length_append, ← HLA.out, ← HLB.out]
  obtain ⟨p, hp, hpl⟩ := tmod_lt at' (la + lb + 1) (by omega)
  have hp2 : (at' : Int).tmod ((la : Int) + lb + 1) = (p : Int) := by rw [← hp]; rfl
  obtain ⟨c4, P4⟩ := P3.trunc (i := 1) (n := p) (by omega) (by show p ≤ (a ++ b).length; omega)
  have c4 : (trD s3 1 p).1 = 0 := c4
  obtain ⟨s4, hs4⟩ : ∃ s4, s4 = (trD s3 1 p).2 := ⟨_, rfl⟩
  obtain ⟨L, hL⟩ : ∃ L, L = (a ++ b).take p := ⟨_, rfl⟩
  have P4 : Pl s4 1000 (on1 [] L) (on1 0 (min la p)) := by rw [hs4, hL]; exact Pl.re P4 rfl rfl rfl rfl
  have hLP : Hid (p = L.length) := Lib.hid (by rw [hL, List.length_take]; omega)
  have r4 : rd s4 1 = L := P4.rd (i := 1) (by omega)
  have c5' := P4.trunc_bad (i := 1) (n := p + 1) (by omega) (by show L.length < p + 1; have := hLP.out; omega)
  have c5' : trD s4 1 ((p : Int) + 1) = (2, s4) := c5'
  have c5 : (trD s4 1 ((p : Int) + 1)).1 = 2 := by rw [c5']
  have c5s : (trD s4 1 ((p : Int) + 1)).2 = s4 := by rw [c5']
  obtain ⟨s5, hs5⟩ : ∃ s5, s5 = crashD keep s4 := ⟨_, rfl⟩
  have P5 := P4.crash keep
  rw [← hs5] at P5
  obtain ⟨N, hN⟩ : ∃ N, N = left keep (on1 [] L) (on1 0 (min la p)) 1 := ⟨_, rfl⟩
  have hNv : N = min la p + min (keep 1).toNat (p - min la p) := by rw [hN]; unfold left; show min la p + min (keep 1).toNat (L.length - min la p) = _; rw [← hLP.out]
  obtain ⟨L6, hL6⟩ : ∃ L6, L6 = (a ++ b).take N := ⟨_, rfl⟩
  have r6 : rd s5 1 = L6 := by
    have h := P5.rd (i := 1) (by omega)
    refine h.trans ?_
    show L.take (left keep (on1 [] L) (on1 0 (min la p)) 1) = L6
    rw [← hN, hL6, hL, List.take_take]
    congr 1
    omega
  have hLN : Hid (N = L6.length) := Lib.hid (by rw [hL6, List.length_take]; omega)
  have HL := Lib.hid hL
  have HL6 := Lib.hid hL6
  have HNV := Lib.hid hNv
  have HLAB := Lib.hid hlab
  have hNp : N ≤ p := by omega
  have hpp : p ≤ la + lb := by omega
  clear P0 P1 P2 P3 P4 P5 c5' hp hpl hL hL6 hN hNv hlab
  go_wp2_with fail
  refine Calls.mono (append_any hA 1 (n := la) (c := c) (b := a) HLA.out hac (by unfold maxLen; exact hcm) ((HI.out _ hB).more hB.size) (args_out (HI.out _ hB) hA (Nat.lt_succ_self _))) ?_
  rintro e y1 ⟨rfl, F1, hA3, hfr, hF⟩
  rw [c1]
  rw [← hs1] at hA3
  have hB3 := hB.trans (hfr.below hB.size fun k hk => Nat.le_of_succ_le (hA.lt hk).1)
  have hZ3 := hZ.fr hfr (fun e => by have := (hA.lt e).1; omega)
  have hA3 := hA3
  clear hA hB hfr hF hZ
  have hA := hA3
  have hB := hB3
  have hZ := hZ3
  clear hA3 hB3 hZ3
  go_wp2_with fail
  refine Calls.mono (sync_any hA 1) ?_
  rintro e y2 ⟨rfl, F2, hA3, hfr, hF⟩
  rw [c2]
  rw [← hs2] at hA3
  have hB3 := hB.trans (hfr.below hB.size fun k hk => Nat.le_of_succ_le (hA.lt hk).1)
  have hZ3 := hZ.fr hfr (fun e => by have := (hA.lt e).1; omega)
  have hA3 := hA3
  clear hA hB hfr hF hZ
  have hA := hA3
  have hB := hB3
  have hZ := hZ3
  clear hA3 hB3 hZ3
  go_wp2_with fail
  refine Calls.mono (append_any hA 1 (n := lb) (c := d) (b := b) HLB.out hbd (by unfold maxLen; exact hdm) ((HJ.out _ hB).more hB.size) (args_out (HJ.out _ hB) hA (Nat.lt_succ_self _))) ?_
  rintro e y3 ⟨rfl, F3, hA3, hfr, hF⟩
  rw [c3]
  rw [← hs3] at hA3
  have hB3 := hB.trans (hfr.below hB.size fun k hk => Nat.le_of_succ_le (hA.lt hk).1)
  have hZ3 := hZ.fr hfr (fun e => by have := (hA.lt e).1; omega)
  have hA3 := hA3
  clear hA hB hfr hF hZ
  have hA := hA3
  have hB := hB3
  have hZ := hZ3
  clear hA3 hB3 hZ3
  -- all
  obtain ⟨i0, hi0, hz0, hz1, hz2⟩ := info_parts infoU8
  have hYB := (Below.refl y3.heap.size y3).alloc (Nat.le_refl _) (.cells #[] 5)
  have hA5 := HI.out _ (hB.trans (hYB.mono hB.size))
  go_wp2_with (at_builtin; refine wpList_append_row _ rfl (.tmp 48) (.tmp 49) _ rfl y3.heap.size 5 i0 _ 1 Try.underlying29 hi0 hz0 hz1 hz2 rfl _ 0 [] rfl (by exact own_empty _ _ (Nat.le_refl _)) w.heap.size A la c (bs a) rfl (by rw [bs_length]; exact HLA.out) hA5 (bs_one a) (by unfold maxLen; omega) (by omega) (by simp) ?_)
  intro v50 u1 ho50 hg50 _ _
  have hU1 : Below y3.heap.size y3 u1 := hYB.grown hg50 (by simp) (by simp [Value.ownBlock])
  have hB5 := HJ.out _ (hB.trans (hU1.mono hB.size))
  have hus := hU1.size
  clear hA5 hYB hg50
  go_wp2_with (at_builtin; refine wpList_append_row _ rfl (.tmp 50) (.tmp 51) _ rfl y3.heap.size 5 i0 _ 1 Try.underlying29 hi0 hz0 hz1 hz2 rfl _ _ _ rfl ho50 w.heap.size B lb d (bs b) rfl (by rw [bs_length]; exact HLB.out) hB5 (bs_one b) (by unfold maxLen; omega) (by omega) hus ?_)
  intro v52 u2 ho52 hg52 _ _
  have hU2 : Below y3.heap.size y3 u2 := hU1.grown hg52 hus (fun j hj => (own_row ho50 hj).1)
  have hO : Mine u2 y3.heap.size F3 v52 (a ++ b) := ⟨by rw [HLAB.out, bs_append]; simpa using ho52, fun r hr hf => by have := (own_row ho52 hr).1; have := (hA.lt hf).2; omega⟩
  obtain ⟨A11, c11, hv52⟩ := own_form ho52
  subst hv52
  have hcap11 : la + lb ≤ c11 := own_le ho52
  have hA3 := hA.below hU2
  have hB3 := hB.trans (hU2.mono hB.size)
  have hZ3 := hZ.below hU2 hZ.lt
  clear ho50 ho52 hg52 hU1 hU2 hB5 hus hA hB hZ HLA HLB HI HJ
  have hA := hA3
  have hB := hB3
  have hZ := hZ3
  clear hA3 hB3 hZ3
  have y1 : IntKind.i64.wrap ((la : Int) + lb + 1) = (la : Int) + lb + 1 := IntWalk.i64_in _ (by omega)
  have y1' : IntKind.i64.wrap (((la + lb : Nat) : Int) + 1) = (la : Int) + lb + 1 := by rw [show ((la + lb : Nat) : Int) + 1 = (la : Int) + lb + 1 by omega]; exact y1
  have z1 : ¬ (la : Int) + lb + 1 = 0 := by omega
  have wa : wrap64 (at' : Int) = at' := IntWalk.wrap64_in _ (by omega)
  go_wp2_with fail
  clear y1 y1' z1 wa hp2
  have y2 : IntKind.i64.wrap ((p : Int) + 1) = (p : Int) + 1 := IntWalk.i64_in _ (by omega)
  have j1 : (0 : Int) ≤ (p : Int) := by omega
  have j2 : (p : Int) ≤ (c11 : Int) := by omega
  refine wp_region_heldG [] (fun _ _ => True) (by kernel_rfl) ?_
  change wpAnyG _ _ _ _ _ _ 20 _ _ (World.drew _)
  have hA3 := hA.drew
  have hB3 := hB.drew
  have hZ3 := hZ.drew
  have hO3 := hO.below ((Below.refl _ u2).drew)
  generalize u2.drew = u3 at *
  clear hA hB hZ hO
  have hA := hA3
  have hB := hB3
  have hZ := hZ3
  have hO := hO3
  clear hA3 hB3 hZ3 hO3
  -- take0 take1 one2 take3 take4 take5G take7G take8G take9G one6G one10G take11G take12 take13 take14G take15G take16G one17G take18G take19 done
  refine g_take (i := 0) rfl rfl (by kernel_rfl) (by kernel_rfl) (by kernel_rfl) (by kernel_rfl) (by kernel_rfl) (fun _ _ _ h => h) trivial (fun L W hL hW => by go_simp; rfl) ?_
  refine g_take (i := 1) rfl rfl (by kernel_rfl) (by kernel_rfl) (by kernel_rfl) (by kernel_rfl) (by kernel_rfl) (fun _ _ _ h => h) trivial (fun L W hL hW => by go_simp; rfl) ?_
  refine g_one (i := 2) rfl rfl (by kernel_rfl) fun K hK => ?_
  go_simp
  refine Calls.mono (trunc_any hA 1 p) ?_
  rintro e y4 ⟨rfl, F4, hA3, hfr, hF⟩
  rw [c4]
  rw [← hs4] at hA3
  have hB3 := hB.trans (hfr.below hB.size fun k hk => Nat.le_of_succ_le (hA.lt hk).1)
  have hZ3 := hZ.fr hfr (fun e => by have := (hA.lt e).1; omega)
  have hO3 := hO.next hfr hF hA
  clear hO
  have hO := hO3
  clear hO3
  have hA3 := hA3
  clear hA hB hfr hF hZ
  have hA := hA3
  have hB := hB3
  have hZ := hZ3
  clear hA3 hB3 hZ3
  refine hK _ _ trivial ?_
  clear hK K
  refine g_take (i := 3) rfl rfl (by kernel_rfl) (by kernel_rfl) (by kernel_rfl) (by kernel_rfl) (by kernel_rfl) (fun _ _ _ h => h) trivial (fun L W hL hW => by go_simp; rfl) ?_
  refine g_take (i := 4) rfl rfl (by kernel_rfl) (by kernel_rfl) (by kernel_rfl) (by kernel_rfl) (by kernel_rfl) (fun _ _ _ h => h) trivial (fun L W hL hW => by go_simp; rfl) ?_
  refine g_takeG (i := 5) rfl (by simp only [Region.wanted, yielded]; go_simp) (by kernel_rfl) (by kernel_rfl) (by kernel_rfl) (by kernel_rfl) (by kernel_rfl) (fun _ _ _ h => h) trivial (fun L W hL hW => by go_simp; rfl) ?_
  refine g_takeG (i := 7) rfl (by simp only [Region.wanted, yielded]; go_simp) (by kernel_rfl) (by kernel_rfl) (by kernel_rfl) (by kernel_rfl) (by kernel_rfl) (fun _ _ _ h => h) trivial (fun L W hL hW => by go_simp; rfl) ?_
  refine g_takeG (i := 8) rfl (by simp only [Region.wanted, yielded]; go_simp) (by kernel_rfl) (by kernel_rfl) (by kernel_rfl) (by kernel_rfl) (by kernel_rfl) (fun _ _ _ h => h) trivial (fun L W hL hW => by go_simp; rfl) ?_
  refine g_takeG (i := 9) rfl (by simp only [Region.wanted, yielded]; go_simp) (by kernel_rfl) (by kernel_rfl) (by kernel_rfl) (by kernel_rfl) (by kernel_rfl) (fun _ _ _ h => h) trivial (fun L W hL hW => by go_simp; rfl) ?_
  refine g_one (i := 6) rfl (by simp only [Region.wanted, yielded]; go_simp) (by kernel_rfl) fun K hK => ?_
  go_simp
  refine Calls.mono (read_any hA 1) ?_
  rintro e y5 ⟨v5, rfl, hown, hb⟩
  rw [r4] at hown
  obtain ⟨Ar5, cr5, rfl, -, -, hr2⟩ := own_read hown
  clear hown
  have hA3 := hA.below hb
  have hB3 := hB.trans (hb.mono hB.size)
  have hZ3 := hZ.below hb hZ.lt
  have hO3 := hO.below hb
  clear hO
  have hO := hO3
  clear hO3
  clear hA hB hZ hb
  have hA := hA3
  have hB := hB3
  have hZ := hZ3
  clear hA3 hB3 hZ3
  refine hK _ _ trivial ?_
  clear hK K
  refine g_one (i := 10) rfl (by simp only [Region.wanted, yielded]; go_simp) (by kernel_rfl) fun K hK => ?_
  go_simp
  refine Calls.mono (same_any _ _ _ _ _ _ _ _ rfl hLP.out _ hr2 (by rw [HL.out]; exact (hO.bytes).head _)) ?_
  rintro e y6 ⟨rfl, rfl⟩
  rw [beq_self_eq_true]
  clear hr2
  refine hK _ _ trivial ?_
  clear hK K
  refine g_takeG (i := 11) rfl (by simp only [Region.wanted, yielded]; go_simp) (by kernel_rfl) (by kernel_rfl) (by kernel_rfl) (by kernel_rfl) (by kernel_rfl) (fun _ _ _ h => h) trivial (fun L W hL hW => by go_simp; rfl) ?_
  refine g_take (i := 12) rfl rfl (by kernel_rfl) (by kernel_rfl) (by kernel_rfl) (by kernel_rfl) (by kernel_rfl) (fun _ _ _ h => h) trivial (fun L W hL hW => by go_simp; rfl) ?_
  refine g_take (i := 13) rfl rfl (by kernel_rfl) (by kernel_rfl) (by kernel_rfl) (by kernel_rfl) (by kernel_rfl) (fun _ _ _ h => h) trivial (fun L W hL hW => by go_simp; rfl) ?_
  refine g_takeG (i := 14) rfl (by simp only [Region.wanted, yielded]; go_simp) (by kernel_rfl) (by kernel_rfl) (by kernel_rfl) (by kernel_rfl) (by kernel_rfl) (fun _ _ _ h => h) trivial (fun L W hL hW => by go_simp; rfl) ?_
  refine g_takeG (i := 15) rfl (by simp only [Region.wanted, yielded]; go_simp) (by kernel_rfl) (by kernel_rfl) (by kernel_rfl) (by kernel_rfl) (by kernel_rfl) (fun _ _ _ h => h) trivial (fun L W hL hW => by go_simp; rfl) ?_
  refine g_takeG (i := 16) rfl (by simp only [Region.wanted, yielded]; go_simp) (by kernel_rfl) (by kernel_rfl) (by kernel_rfl) (by kernel_rfl) (by kernel_rfl) (fun _ _ _ h => h) trivial (fun L W hL hW => by go_simp; rfl) ?_
  refine g_one (i := 17) rfl (by simp only [Region.wanted, yielded]; go_simp) (by kernel_rfl) fun K hK => ?_
  go_simp
  refine Calls.mono (trunc_any hA 1 (p + 1)) ?_
  rintro e y7 ⟨rfl, F7, hA3, hfr, hF⟩
  rw [c5]
  rw [c5s] at hA3
  have hB3 := hB.trans (hfr.below hB.size fun k hk => Nat.le_of_succ_le (hA.lt hk).1)
  have hZ3 := hZ.fr hfr (fun e => by have := (hA.lt e).1; omega)
  have hO3 := hO.next hfr hF hA
  clear hO
  have hO := hO3
  clear hO3
  have hA3 := hA3
  clear hA hB hfr hF hZ
  have hA := hA3
  have hB := hB3
  have hZ := hZ3
  clear hA3 hB3 hZ3
  refine hK _ _ trivial ?_
  clear hK K
  refine g_takeG (i := 18) rfl (by simp only [Region.wanted, yielded]; go_simp) (by kernel_rfl) (by kernel_rfl) (by kernel_rfl) (by kernel_rfl) (by kernel_rfl) (fun _ _ _ h => h) trivial (fun L W hL hW => by go_simp; rfl) ?_
  refine g_take (i := 19) rfl rfl (by kernel_rfl) (by kernel_rfl) (by kernel_rfl) (by kernel_rfl) (by kernel_rfl) (fun _ _ _ h => h) trivial (fun L W hL hW => by go_simp; rfl) ?_
  refine wpAnyG_done (by kernel_rfl) ?_ _
  go_simp
  clear y2
  go_wp2_with (refine wpList_load_row rfl 24 (.tmp 7) rfl w.heap.size rfl 24 _ _ _ hZ.out Try.underlying24 rfl (by kernel_rfl) ?_)
  refine Calls.mono (crash_any hA keep HKP.out) ?_
  rintro e y8 ⟨⟨v8, rfl⟩, F8, hA3, hfr, hF⟩
  rw [← hs5] at hA3
  have hB3 := hB.trans (hfr.below hB.size fun k hk => Nat.le_of_succ_le (hA.lt hk).1)
  have hZ3 := hZ.fr hfr (fun e => by have := (hA.lt e).1; omega)
  have hO3 := hO.next hfr hF hA
  clear hO
  have hO := hO3
  clear hO3
  have hA3 := hA3
  clear hA hB hfr hF hZ
  have hA := hA3
  have hB := hB3
  have hZ := hZ3
  clear hA3 hB3 hZ3
  have k1 := Blk.at_ hZ 1 (v := .int .i64 (keep 1)) rfl
  have hkb := HKP.out 1 (by omega)
  obtain ⟨mm, hmm⟩ : ∃ mm, mm = min la p := ⟨_, rfl⟩
  rw [← hmm] at HNV
  go_upto_region 10 with fail
  go_cut [13] (fun v wx => v = .int .i64 (mm : Int) ∧ wx = y8)
  case first =>
    clear k1 hkb
    by_cases hlt : la < p
    · obtain rfl : mm = la := by omega
      have u1 : (mm : Int) < (p : Int) := by omega
      clear hmm hlt
      go_wp2_with fail
      go_meet
      exact ⟨rfl, rfl⟩
    · obtain rfl : mm = p := by omega
      have u1 : ¬ (la : Int) < (mm : Int) := by omega
      clear hmm hlt
      go_wp2_with fail
      go_meet
      exact ⟨rfl, rfl⟩
  case rest =>
  obtain ⟨rfl, rfl⟩ := hcut
  have hmp : mm ≤ p := by omega
  clear hmm
  obtain ⟨q, hq⟩ : ∃ q, q = p - mm := ⟨_, rfl⟩
  have y3 : IntKind.i64.wrap ((p : Int) - mm) = (q : Int) := by rw [show (p : Int) - mm = q by omega]; exact IntWalk.i64_in _ (by omega)
  rw [← hq] at HNV
  go_upto_region 11 with fail
  go_cut [14] (fun v wx => v = .int .i64 (N : Int) ∧ wx = wc)
  case first =>
    have hN2 := HNV.out
    by_cases hk0 : keep 1 < 0
    · have y4 : IntKind.i64.wrap (mm : Int) = (N : Int) := by rw [show (mm : Int) = N by omega]; exact IntWalk.i64_in _ (by omega)
      have y5 : IntKind.i64.wrap ((mm : Int) + 0) = (N : Int) := by rw [show (mm : Int) + 0 = N by omega]; exact IntWalk.i64_in _ (by omega)
      have u1 : ¬ (q : Int) < 0 := by omega
      clear hN2 hkb hq
      go_wp2_with fail
      go_meet
      exact ⟨rfl, rfl⟩
    · obtain ⟨kp, hkp⟩ : ∃ kp : Nat, keep 1 = kp := ⟨(keep 1).toNat, by omega⟩
      rw [hkp] at k1
      have hT : (keep 1).toNat = kp := by rw [hkp]; rfl
      rw [hT] at hN2
      have u0 : ¬ (kp : Int) < 0 := by omega
      by_cases hqk : q < kp
      · have u1 : (q : Int) < (kp : Int) := by omega
        have y4 : IntKind.i64.wrap ((mm : Int) + q) = (N : Int) := by rw [show (mm : Int) + q = N by omega]; exact IntWalk.i64_in _ (by omega)
        clear hN2 hkb hq hk0 hkp hT hqk
        go_wp2_with fail
        go_meet
        exact ⟨rfl, rfl⟩
      · have u1 : ¬ (q : Int) < (kp : Int) := by omega
        have y4 : IntKind.i64.wrap ((mm : Int) + kp) = (N : Int) := by rw [show (mm : Int) + kp = N by omega]; exact IntWalk.i64_in _ (by omega)
        clear hN2 hkb hq hk0 hkp hT hqk
        go_wp2_with fail
        go_meet
        exact ⟨rfl, rfl⟩
  case rest =>
  obtain ⟨rfl, rfl⟩ := hcut
  have j3 : (0 : Int) ≤ (N : Int) := by omega
  have j4 : (N : Int) ≤ (c11 : Int) := by omega
  clear y3 hq k1 hkb
  go_wp2_with fail
  refine wp_region_heldG [] (fun _ _ => True) (by kernel_rfl) ?_
  change wpAnyG _ _ _ _ _ _ 10 _ _ (World.drew _)
  have hA3 := hA.drew
  have hB3 := hB.drew
  have hZ3 := hZ.drew
  have hO3 := hO.below ((Below.refl _ wc).drew)
  generalize wc.drew = u4 at *
  clear hA hB hZ hO
  have hA := hA3
  have hB := hB3
  have hZ := hZ3
  have hO := hO3
  clear hA3 hB3 hZ3 hO3
  -- take0 take2 take3 take4 one1 one5 take6 one7G take8 take9 done
  refine g_take (i := 0) rfl rfl (by kernel_rfl) (by kernel_rfl) (by kernel_rfl) (by kernel_rfl) (by kernel_rfl) (fun _ _ _ h => h) trivial (fun L W hL hW => by go_simp; rfl) ?_
  refine g_take (i := 2) rfl rfl (by kernel_rfl) (by kernel_rfl) (by kernel_rfl) (by kernel_rfl) (by kernel_rfl) (fun _ _ _ h => h) trivial (fun L W hL hW => by go_simp; rfl) ?_
  refine g_take (i := 3) rfl rfl (by kernel_rfl) (by kernel_rfl) (by kernel_rfl) (by kernel_rfl) (by kernel_rfl) (fun _ _ _ h => h) trivial (fun L W hL hW => by go_simp; rfl) ?_
  refine g_take (i := 4) rfl rfl (by kernel_rfl) (by kernel_rfl) (by kernel_rfl) (by kernel_rfl) (by kernel_rfl) (fun _ _ _ h => h) trivial (fun L W hL hW => by go_simp; rfl) ?_
  refine g_one (i := 1) rfl rfl (by kernel_rfl) fun K hK => ?_
  go_simp
  refine Calls.mono (read_any hA 1) ?_
  rintro e y9 ⟨v9, rfl, hown, hb⟩
  rw [r6] at hown
  obtain ⟨Ar9, cr9, rfl, -, -, hr2⟩ := own_read hown
  clear hown
  have hA3 := hA.below hb
  have hB3 := hB.trans (hb.mono hB.size)
  have hZ3 := hZ.below hb hZ.lt
  have hO3 := hO.below hb
  clear hO
  have hO := hO3
  clear hO3
  clear hA hB hZ hb
  have hA := hA3
  have hB := hB3
  have hZ := hZ3
  clear hA3 hB3 hZ3
  refine hK _ _ trivial ?_
  clear hK K
  refine g_one (i := 5) rfl rfl (by kernel_rfl) fun K hK => ?_
  go_simp
  refine Calls.mono (same_any _ _ _ _ _ _ _ _ rfl hLN.out _ hr2 (by rw [HL6.out]; exact (hO.bytes).head _)) ?_
  rintro e y10 ⟨rfl, rfl⟩
  rw [beq_self_eq_true]
  clear hr2
  refine hK _ _ trivial ?_
  clear hK K
  refine g_take (i := 6) rfl rfl (by kernel_rfl) (by kernel_rfl) (by kernel_rfl) (by kernel_rfl) (by kernel_rfl) (fun _ _ _ h => h) trivial (fun L W hL hW => by go_simp; rfl) ?_
  refine g_one (i := 7) rfl (by simp only [Region.wanted, yielded]; go_simp) (by kernel_rfl) fun K hK => ?_
  go_simp
  refine Calls.mono (awake_any _) ?_
  rintro e y99 ⟨rfl, hb⟩
  have hBF := hB.trans (hb.mono hB.size)
  refine hK _ _ trivial ?_
  clear hK K
  refine g_take (i := 8) rfl rfl (by kernel_rfl) (by kernel_rfl) (by kernel_rfl) (by kernel_rfl) (by kernel_rfl) (fun _ _ _ h => h) trivial (fun L W hL hW => by go_simp; rfl) ?_
  refine g_take (i := 9) rfl rfl (by kernel_rfl) (by kernel_rfl) (by kernel_rfl) (by kernel_rfl) (by kernel_rfl) (fun _ _ _ h => h) trivial (fun L W hL hW => by go_simp; rfl) ?_
  refine wpAnyG_done (by kernel_rfl) ?_ _
  go_simp
  go_wp2_with fail
  go_ret
  exact ⟨rfl, hBF⟩
end Go.Proofs.Ytgajgjijnpigoaa.Dk
