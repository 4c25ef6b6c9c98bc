/-
  The walk of up: each edge of an order that is well formed goes up.
-/
import Derived.Test.YtpikdjaedbogdaaOrderBoth
namespace Go.Proofs.Ytpikdjaedbogdaa.OrW
set_option linter.unusedVariables false
open Go Go.RowKit Go.Proofs Go.Proofs.Ytpikdjaedbogdaa Go.Proofs.Ytpikdjaedbogdaa.Wd Go.Proofs.Ytpikdjaedbogdaa.GrW Go.Proofs.Ytpikdjaedbogdaa.Ord
open Go.Proofs.Ytpikdjaedbogdaa.Gr (OK putL outs intos Path edgesTo)

section
variable {w : World} {base o n : Nat} {F : Nat → Prop} {L : List (List Int)} {P A : List Nat}
theorem place_v (h : OAt w base F o n L P A) (hP : Perm n P A) (v : Nat) (hv : v < n) : Calls Try.prog 13 #[.pointer (some ⟨o, 0, none⟩), .int .i64 (v : Nat)] w fun e w' => e = .returned (.tuple #[.int .i64 (P.getD v 0 : Nat), .bool true]) ∧ w = w' := by
  have e : isV n (v : Int) = true := by unfold isV; simp; omega
  refine (place_o h hP (v : Nat)).mono ?_
  rintro e' w' ⟨rfl, rfl⟩
  rw [e, if_pos rfl, Int.toNat_natCast]
  exact ⟨rfl, rfl⟩
theorem at_v (h : OAt w base F o n L P A) (hP : Perm n P A) (v : Nat) (hv : v < n) : Calls Try.prog 29 #[.pointer (some ⟨o, 0, none⟩), .int .i64 (v : Nat)] w fun e w' => e = .returned (.tuple #[.int .i64 (A.getD v 0 : Nat), .bool true]) ∧ w = w' := by
  have e : isV n (v : Int) = true := by unfold isV; simp; omega
  refine (at_o h hP (v : Nat)).mono ?_
  rintro e' w' ⟨rfl, rfl⟩
  rw [e, if_pos rfl, Int.toNat_natCast]
  exact ⟨rfl, rfl⟩
end
theorem edge_of {n : Nat} {L : List (List Int)} (ok : OK n L) {i : Nat} (hi : i < (edgesTo L n).length) : ∃ x y : Nat, (edgesTo L n)[i] = ((x : Int), (y : Int)) ∧ x < n ∧ y < n ∧ Gr.E L x y := by
  obtain ⟨u, hu, e1, h2⟩ := Gr.mem_edgesTo.1 (List.getElem_mem hi)
  have h3 := ok.ins _ _ h2
  obtain ⟨y, hy⟩ : ∃ y : Nat, ((edgesTo L n)[i]).2 = (y : Int) := ⟨_, (Int.toNat_of_nonneg h3.1).symm⟩
  refine ⟨u, y, Prod.ext e1 hy, hu, by omega, ?_⟩
  unfold Gr.E
  rw [← hy]; exact h2
set_option maxRecDepth 100000 in
set_option maxHeartbeats 4000000 in
theorem up_any {w : World} {base o n : Nat} {F : Nat → Prop} {L : List (List Int)} {P A : List Nat} (h : OAt w base F o n L P A) (hs : OSt n L P A) (hn : n ≤ 15000) :
    Calls Try.prog 31 #[.pointer (some ⟨o, 0, none⟩)] w fun e w' => e = .returned (.bool true) ∧ Below w.heap.size w w' := by
  have HO := Lib.hid h
  have HS := Lib.hid hs
  have HL := Lib.hid (len_o h)
  have HE := Lib.hid (edges_o h hs.ok (by omega))
  clear h hs
  go_enter Try.func31, Try.ntmps31
  go_wp2_with fail
  refine Calls.mono HL.out ?_
  rintro e w' ⟨rfl, rfl⟩
  go_wp2_with fail
  go_loop [16] (fun i => ∃ v : Nat, v ≤ n ∧ i = .int .i64 v) (fun i => n - (intOf i).toNat)
  case atStart => exact ⟨0, Nat.zero_le _, rfl⟩
  case round =>
    obtain ⟨v, hv, rfl⟩ := hrel
    by_cases hlt : v < n
    · obtain ⟨hp1, hp2⟩ := HS.out.perm.pa v hlt
      have HPL := Lib.hid (place_v HO.out HS.out.perm v hlt)
      have HAT := Lib.hid (at_v HO.out HS.out.perm _ hp1)
      rw [hp2] at HAT
      generalize P.getD v 0 = p at *
      have i1 : (v : Int) < (n : Int) := by omega
      have i2 : ((v : Int) == (v : Int)) = true := by simp
      clear hp1 hp2
      go_wp2_with fail
      refine Calls.mono HPL.out ?_
      rintro e w' ⟨rfl, rfl⟩
      clear HPL
      go_wp2_with fail
      refine Calls.mono HAT.out ?_
      rintro e w' ⟨rfl, rfl⟩
      clear HAT
      go_wp2_with fail
      go_round
      case rel => exact ⟨v + 1, by omega, by go_num⟩
      case measure => simp [intOf]; omega
    · have i1 : ¬ (v : Int) < (n : Int) := by omega
      go_wp2_with fail
      refine Calls.mono HE.out ?_
      rintro e w1 ⟨Ae, ce, rfl, q1, q2⟩
      have HB1 := Lib.hid q1
      obtain ⟨E1, -, -, -⟩ := EdgesAt.of_own q2
      have HE1 := Lib.hid E1
      have HO1 := Lib.hid (HO.out.below q1)
      clear q1 q2 HE E1 i1
      have hmb := Gr.edgesTo_length (HS.out.ok.rises (by omega)) n
      generalize hm : (edgesTo L n).length = m at *
      have HM := Lib.hid hm
      clear hm
      go_wp2_with fail
      go_loopw [46] (fun i wr => ∃ j : Nat, j ≤ m ∧ i = .int .i64 j ∧ Hid (Below w1.heap.size w1 wr)) (fun i _ => m - (intOf i).toNat)
      case atStart => exact ⟨0, Nat.zero_le _, rfl, Lib.hid (Below.refl _ _)⟩
      case round =>
        obtain ⟨j, hj, rfl, HB⟩ := hrel
        by_cases hlt2 : j < m
        · have hjl : j < (edgesTo L n).length := by have := HM.out; omega
          obtain ⟨b, off, rfl, hb, p1, p2⟩ := HE1.out j hjl
          obtain ⟨x, y, hxy, hx, hy, hE⟩ := edge_of HS.out.ok hjl
          rw [hxy] at p1 p2
          have q1 := (HB.out.cell (p := ⟨b, _, none⟩) hb).trans p1
          have q2 := (HB.out.cell (p := ⟨b, _, none⟩) hb).trans p2
          have hup := HS.out.up x y hE
          have HBA := Lib.hid ((Below.refl wr.heap.size wr).alloc (Nat.le_refl _) (.cells #[.int .i64 (x : Nat), .int .i64 (y : Nat)] 28))
          have HBX := Lib.hid (Blk.new_ wr 28 #[.int .i64 (x : Nat), .int .i64 (y : Nat)] rfl)
          have b0 := HBX.out.at_ 0 rfl
          have b1 := HBX.out.at_ 1 rfl
          have HO2 := Lib.hid ((HO1.out.below HB.out).below HBA.out)
          have HB2 := Lib.hid (HB.out.trans (HBA.out.mono HB.out.size))
          have HPX := Lib.hid (place_v HO2.out HS.out.perm x hx)
          have HPY := Lib.hid (place_v HO2.out HS.out.perm y hy)
          generalize P.getD x 0 = px at *
          generalize P.getD y 0 = py at *
          have i3 : (0 : Int) ≤ (j : Int) := by omega
          have i4 : (j : Int) < (m : Int) := by omega
          have i5 : ¬ (py : Int) ≤ (px : Int) := by omega
          have HLT := Lib.hid hlt2
          clear p1 p2 hb hxy hE hjl
          go_wp2_with fail
          refine Calls.mono HPX.out ?_
          rintro e w' ⟨rfl, rfl⟩
          clear HPX
          go_wp2_with fail
          refine Calls.mono HPY.out ?_
          rintro e w' ⟨rfl, rfl⟩
          clear HPY
          go_wp2_with fail
          go_roundw
          case rel => exact ⟨j + 1, by have := HLT.out; omega, by go_num, HB2⟩
          case measure => simp [intOf]; have := HLT.out; omega
        · have i4 : ¬ (j : Int) < (m : Int) := by omega
          have HO2 := Lib.hid (HO1.out.below HB.out)
          have HLI := Lib.hid (list_o HO2.out HS.out.perm (by omega))
          have HB2 := Lib.hid (HB1.out.trans (HB.out.mono HB1.out.size))
          have hla : (zs A).length = n := by rw [zs_length, HS.out.perm.la]
          go_wp2_with fail
          refine Calls.mono HLI.out ?_
          rintro e w3 ⟨v3, rfl, o3, b3⟩
          rw [hla] at o3
          obtain ⟨A3, c3, rfl⟩ := own_form o3
          have HL3 := Lib.hid (len_o (HO2.out.below b3))
          have HB3 := Lib.hid (HB2.out.trans (b3.mono HB2.out.size))
          have hnn : ((n : Int) == (n : Int)) = true := by simp
          clear HLI o3 b3 hla
          go_wp2_with fail
          refine Calls.mono HL3.out ?_
          rintro e w' ⟨rfl, rfl⟩
          clear HL3
          go_wp2_with fail
          go_ret
          exact ⟨by rw [← hnn]; rfl, HB3.out⟩
end Go.Proofs.Ytpikdjaedbogdaa.OrW
