/-
  The walks of the document's disk: Sync, Write.
-/
import Derived.Test.YtpohefpiidlnjaaDiskRef3
import Derived.Test.YtpohefpiidlnjaaDiskSync
namespace Go.Proofs.Ytpohefpiidlnjaa.Dr
set_option linter.unusedVariables false
open Go Go.RowKit Go.Proofs Go.Proofs.Ytpohefpiidlnjaa Go.Proofs.Ytpohefpiidlnjaa.Wd
open Go.Proofs.Ytpohefpiidlnjaa.Dk (DS upd upd_eq upd_ne Fresh rd hd free own_empty Ok among_yes syncD syD putS wrD truncD trD after died fused)
theorem RV.syncs0 {w : World} {F : Nat → Prop} {s : DS} {v : Nat → Sl} {cl k : Int} (h : RV w F s v cl k) {x : Sl} (hx : Ref w F x (s.all 0)) : RV w F (syncD 0 s) (upd (upd v 1 x) 2 (none, 0, 0)) cl k :=
  ⟨by show Ref w F x ((s.all 0).take (s.all 0).length); rw [List.take_length]; exact hx, by show Ref w F (none, 0, 0) ((s.all 0).drop (s.all 0).length); rw [List.drop_length]; exact Ref.nil _ _, h.a1, h.b1, h.c0, h.d0, h.c1, h.d1, h.fu⟩
theorem RV.syncs1 {w : World} {F : Nat → Prop} {s : DS} {v : Nat → Sl} {cl k : Int} (h : RV w F s v cl k) {x : Sl} (hx : Ref w F x (s.all 1)) : RV w F (syncD 1 s) (upd (upd v 3 x) 4 (none, 0, 0)) cl k :=
  ⟨h.a0, h.b0, by show Ref w F x ((s.all 1).take (s.all 1).length); rw [List.take_length]; exact hx, by show Ref w F (none, 0, 0) ((s.all 1).drop (s.all 1).length); rw [List.drop_length]; exact Ref.nil _ _, h.c0, h.d0, h.c1, h.d1, h.fu⟩
theorem RV.writes0 {w : World} {F : Nat → Prop} {s : DS} {v : Nat → Sl} {cl k : Int} (h : RV w F s v cl k) {b : List UInt8} {x : Sl} (hx : Ref w F x b) : RV w F (putS 0 b s) (upd v 6 x) cl k :=
  ⟨h.a0, h.b0, h.a1, h.b1, h.c0, hx, h.c1, h.d1, h.fu⟩
theorem RV.writes1 {w : World} {F : Nat → Prop} {s : DS} {v : Nat → Sl} {cl k : Int} (h : RV w F s v cl k) {b : List UInt8} {x : Sl} (hx : Ref w F x b) : RV w F (putS 1 b s) (upd v 8 x) cl k :=
  ⟨h.a0, h.b0, h.a1, h.b1, h.c0, h.d0, h.c1, hx, h.fu⟩
section
variable {w : World} {F : Nat → Prop} {s : DS} {v : Nat → Sl} {cl k : Int}
set_option maxRecDepth 100000 in
set_option maxHeartbeats 4000000 in
theorem rwrite (ok : Ok s) (h : RV w F s v cl k) (hF : ∀ j, F j → j < w.heap.size) (seg : Int) {A : Option Addr} {n c : Nat} {b : List UInt8} (hn : n = b.length) (hI : Bytes w w.heap.size A b) :
    Calls Try.prog 47 #[rval s v cl k, .int .i64 seg, .slice A n c] w (Turned F (wrD s seg b) w) := by
  have HN := Lib.hid hn
  have HQ := Lib.hid h.fu
  have HI := Lib.hid hI
  clear hn hI
  obtain ⟨X, hX⟩ : ∃ X, X = rcells s v cl k := ⟨_, rfl⟩
  unfold rval
  rw [← hX]
  have HX := Lib.hid hX
  have hS := ST.start h hF (rx_size hX)
  clear hX h hF
  go_enter Try.func47, Try.ntmps47
  go_upto_region 1 with fail
  generalize ((w.alloc (.cells X 69)).alloc (.cells #[.int .i64 0, .slice none 0 0, .slice none 0 0, .slice none 0 0, .slice none 0 0, .slice none 0 0, .slice none 0 0, .slice none 0 0, .slice none 0 0, .bool false, .int .i64 0, .int .i64 0, .bool false] 69)) = w0 at *
  have HS := Lib.hid hS
  clear hS
  cases hd : s.dead
  rotate_left
  · have q12 := HS.out.box.at_ 12 (v := .bool true) (by rw [HX.out, ← hd]; rfl)
    have HR : Hid (wrD s seg b = (3, s)) := Lib.hid (by unfold Dk.wrD; rw [if_pos hd])
    have HO := Lib.hid (HS.out.out HX.out 3)
    rw [← HR.out] at HO
    go_wp2_with (first | (refine wpList_load_row rfl 69 (.tmp 3) rfl w.heap.size rfl 69 X _ _ HS.out.box.out Try.underlying69 rfl (by rw [rx_size HX.out]; kernel_rfl) ?_) | (refine wpList_put_row rfl rfl 69 (.tmp 6) _ rfl (w.heap.size + 1) rfl 69 _ X rfl HS.out.res (by rw [rx_size HX.out]; kernel_rfl) (by rw [rx_size HX.out]; rfl) (rx_one HX.out) ?_))
    refine bodyPost_ret (results_cell_row2 rfl _ _ (w.heap.size + 1) 69 X (0, 0) _ rfl (HS.out.res.row X).out Try.underlying69 rfl (by rw [rx_size HX.out]; kernel_rfl)) rfl ?_
    exact HO.out
  have q12 := HS.out.box.at_ 12 (v := .bool false) (by rw [HX.out, ← hd]; rfl)
  have hwd : ((decide (seg = 0) || decide (seg = 1)) = false ∨ b.length ≠ 32) → wrD s seg b = (2, s) := fun hx => by
    unfold Dk.wrD
    rw [if_neg (by rw [hd]; simp)]
    rcases hx with hx | hx
    · rw [if_pos hx]
    · rw [if_neg hx, ite_self]
  by_cases h0 : seg < 0
  · have HR := Lib.hid (hwd (.inl (by simp; omega)))
    clear hwd
    have HO := Lib.hid (HS.out.out HX.out 2)
    rw [← HR.out] at HO
    go_wp2_with (first | (refine wpList_load_row rfl 69 (.tmp 3) rfl w.heap.size rfl 69 X _ _ HS.out.box.out Try.underlying69 rfl (by rw [rx_size HX.out]; kernel_rfl) ?_) | (refine wpList_put_row rfl rfl 69 (.tmp 6) _ rfl (w.heap.size + 1) rfl 69 _ X rfl HS.out.res (by rw [rx_size HX.out]; kernel_rfl) (by rw [rx_size HX.out]; rfl) (rx_one HX.out) ?_))
    refine bodyPost_ret (results_cell_row2 rfl _ _ (w.heap.size + 1) 69 X (0, 0) _ rfl (HS.out.res.row X).out Try.underlying69 rfl (by rw [rx_size HX.out]; kernel_rfl)) rfl ?_
    exact HO.out
  by_cases h1 : 1 < seg
  · have HR := Lib.hid (hwd (.inl (by simp; omega)))
    clear hwd
    have HO := Lib.hid (HS.out.out HX.out 2)
    rw [← HR.out] at HO
    go_wp2_with (first | (refine wpList_load_row rfl 69 (.tmp 3) rfl w.heap.size rfl 69 X _ _ HS.out.box.out Try.underlying69 rfl (by rw [rx_size HX.out]; kernel_rfl) ?_) | (refine wpList_put_row rfl rfl 69 (.tmp 6) _ rfl (w.heap.size + 1) rfl 69 _ X rfl HS.out.res (by rw [rx_size HX.out]; kernel_rfl) (by rw [rx_size HX.out]; rfl) (rx_one HX.out) ?_))
    refine bodyPost_ret (results_cell_row2 rfl _ _ (w.heap.size + 1) 69 X (0, 0) _ rfl (HS.out.res.row X).out Try.underlying69 rfl (by rw [rx_size HX.out]; kernel_rfl)) rfl ?_
    exact HO.out
  by_cases h32 : n = 32
  rotate_left
  · have HR := Lib.hid (hwd (.inr (by rw [← HN.out]; exact h32)))
    have u1 : ((n : Int) == 32) = false := by rw [beq_eq_false_iff_ne]; omega
    have u2 : ¬ (n : Int) = 32 := by omega
    have u3 : ((n : Int) != 32) = true := by rw [bne_iff_ne]; omega
    clear hwd h32
    have HO := Lib.hid (HS.out.out HX.out 2)
    rw [← HR.out] at HO
    go_wp2_with (first | (refine wpList_load_row rfl 69 (.tmp 3) rfl w.heap.size rfl 69 X _ _ HS.out.box.out Try.underlying69 rfl (by rw [rx_size HX.out]; kernel_rfl) ?_) | (refine wpList_put_row rfl rfl 69 (.tmp 6) _ rfl (w.heap.size + 1) rfl 69 _ X rfl HS.out.res (by rw [rx_size HX.out]; kernel_rfl) (by rw [rx_size HX.out]; rfl) (rx_one HX.out) ?_))
    refine bodyPost_ret (results_cell_row2 rfl _ _ (w.heap.size + 1) 69 X (0, 0) _ rfl (HS.out.res.row X).out Try.underlying69 rfl (by rw [rx_size HX.out]; kernel_rfl)) rfl ?_
    exact HO.out
  subst h32
  have HD := Lib.hid hd
  have HOK := Lib.hid ok
  clear hd ok hwd
  rcases (by omega : seg = 0 ∨ seg = 1) with rfl | rfl
  all_goals clear h0 h1
  · have HR : Hid (wrD s 0 b = if kb s then (3, killed s) else (0, putS 0 b (killed s))) := Lib.hid (by
      unfold Dk.wrD
      rw [if_neg (by rw [HD.out]; simp), if_neg (by decide), if_pos HN.out.symm, after_r (s := s) (f := putS (Int.toNat 0) b) (fl := fun _ s => s) (fun _ => rfl) (fun _ => rfl)]
      rfl)
    have HK := Lib.hid (rkills (w := w0) (v := v) HOK.out HQ.out)
    unfold rval at HK
    rw [← HX.out] at HK
    go_wp2_with (refine wpList_load_row rfl 69 (.tmp 3) rfl w.heap.size rfl 69 X _ _ HS.out.box.out Try.underlying69 rfl (by rw [rx_size HX.out]; kernel_rfl) ?_)
    refine Calls.mono HK.out ?_
    rintro e w2 ⟨⟨cl2, rfl, hfu2⟩, hb2⟩
    have HS1 := Lib.hid (HS.out.below hb2)
    clear HS HK hb2
    have HS := HS1
    clear HS1
    obtain ⟨X2, hX2⟩ : ∃ X2, X2 = rcells (killed s) v cl2 k := ⟨_, rfl⟩
    unfold rval
    rw [← hX2]
    have HX2 := Lib.hid hX2
    clear hX2
    cases hkb : kb s
    rotate_left
    · rw [hkb, if_pos rfl] at HR
      clear hkb
      go_upto_region 6 with (refine wpList_put_row rfl rfl 69 (.tmp 3) _ rfl w.heap.size rfl 69 X X2 rfl HS.out.box (by rw [rx_size HX2.out]; kernel_rfl) (by rw [rx_size HX.out, rx_size HX2.out]) (rx_one HX2.out) ?_)
      have HS4 := Lib.hid ((HS.out.put X2).kills hfu2)
      have HX4 := HX2
      clear HS HX HX2 hfu2
      generalize w2.setRow w.heap.size X2 = w3 at *
      generalize X2 = X at *
      have HO := Lib.hid (HS4.out.out HX4.out 3)
      rw [← HR.out] at HO
      go_wp2_with (first | (refine wpList_load_row rfl 69 (.tmp 3) rfl w.heap.size rfl 69 X _ _ HS4.out.box.out Try.underlying69 rfl (by rw [rx_size HX4.out]; kernel_rfl) ?_) | (refine wpList_put_row rfl rfl 69 (.tmp 6) _ rfl (w.heap.size + 1) rfl 69 _ X rfl HS4.out.res (by rw [rx_size HX4.out]; kernel_rfl) (by rw [rx_size HX4.out]; rfl) (rx_one HX4.out) ?_))
      refine bodyPost_ret (results_cell_row2 rfl _ _ (w.heap.size + 1) 69 X (0, 0) _ rfl (HS4.out.res.row X).out Try.underlying69 rfl (by rw [rx_size HX4.out]; kernel_rfl)) rfl ?_
      exact HO.out
    rw [hkb, if_neg (by simp)] at HR
    clear hkb
    go_upto_region 6 with (refine wpList_put_row rfl rfl 69 (.tmp 3) _ rfl w.heap.size rfl 69 X X2 rfl HS.out.box (by rw [rx_size HX2.out]; kernel_rfl) (by rw [rx_size HX.out, rx_size HX2.out]) (rx_one HX2.out) ?_)
    have HS4 := Lib.hid ((HS.out.put X2).kills hfu2)
    have HX4 := HX2
    clear HS HX HX2 hfu2
    generalize w2.setRow w.heap.size X2 = w3 at *
    generalize X2 = X at *
    have HC := Lib.hid (join_any (w := w3) (B := w3.heap.size) (Nat.le_refl _) none A 0 c [] b 0 32 rfl HN.out (by omega) (by omega) Row.nil (Row.more (Row.below HI.out HS4.out.low) HS4.out.low.size))
    go_wp2_with fail
    refine Calls.mono HC.out ?_
    rintro e w5 ⟨u, rfl, hown, hb5⟩
    rw [List.nil_append] at hown
    generalize b.length = n5 at hown
    obtain ⟨A5, c5, hu⟩ := own_form hown
    subst hu
    have HREF := Lib.hid (HS4.out.own hb5 hown)
    have HS6 := Lib.hid (HS4.out.below hb5)
    have qa := HS6.out.box.at_ 6 (by rw [HX4.out]; rfl)
    have qf := HS6.out.box.frozen 6
    have HX7 : Hid (X.setIfInBounds 6 (.slice A5 n5 c5) = rcells (putS 0 b (killed s)) (upd v 6 (A5, n5, c5)) cl2 k) := Lib.hid (by rw [HX4.out]; rfl)
    have HS7 := Lib.hid ((HS6.out.re (HS6.out.rv.writes0 HREF.out)).cell 6 (.slice A5 n5 c5))
    clear hown hb5 HC HS4 HREF HS6
    go_upto_region 9 with fail
    clear qa qf
    generalize X.setIfInBounds 6 (.slice A5 n5 c5) = X7 at *
    generalize w5.setCell ⟨w.heap.size, 6, none⟩ (.slice A5 n5 c5) = w7 at *
    have HO := Lib.hid (HS7.out.out HX7.out 0)
    rw [← HR.out] at HO
    go_wp2_with (first | (refine wpList_load_row rfl 69 (.tmp 3) rfl w.heap.size rfl 69 X7 _ _ HS7.out.box.out Try.underlying69 rfl (by rw [rx_size HX7.out]; kernel_rfl) ?_) | (refine wpList_put_row rfl rfl 69 (.tmp 6) _ rfl (w.heap.size + 1) rfl 69 _ X7 rfl HS7.out.res (by rw [rx_size HX7.out]; kernel_rfl) (by rw [rx_size HX7.out]; rfl) (rx_one HX7.out) ?_))
    refine bodyPost_ret (results_cell_row2 rfl _ _ (w.heap.size + 1) 69 X7 (0, 0) _ rfl (HS7.out.res.row X7).out Try.underlying69 rfl (by rw [rx_size HX7.out]; kernel_rfl)) rfl ?_
    exact HO.out
  · have HR : Hid (wrD s 1 b = if kb s then (3, killed s) else (0, putS 1 b (killed s))) := Lib.hid (by
      unfold Dk.wrD
      rw [if_neg (by rw [HD.out]; simp), if_neg (by decide), if_pos HN.out.symm, after_r (s := s) (f := putS (Int.toNat 1) b) (fl := fun _ s => s) (fun _ => rfl) (fun _ => rfl)]
      rfl)
    have HK := Lib.hid (rkills (w := w0) (v := v) HOK.out HQ.out)
    unfold rval at HK
    rw [← HX.out] at HK
    go_wp2_with (refine wpList_load_row rfl 69 (.tmp 3) rfl w.heap.size rfl 69 X _ _ HS.out.box.out Try.underlying69 rfl (by rw [rx_size HX.out]; kernel_rfl) ?_)
    refine Calls.mono HK.out ?_
    rintro e w2 ⟨⟨cl2, rfl, hfu2⟩, hb2⟩
    have HS1 := Lib.hid (HS.out.below hb2)
    clear HS HK hb2
    have HS := HS1
    clear HS1
    obtain ⟨X2, hX2⟩ : ∃ X2, X2 = rcells (killed s) v cl2 k := ⟨_, rfl⟩
    unfold rval
    rw [← hX2]
    have HX2 := Lib.hid hX2
    clear hX2
    cases hkb : kb s
    rotate_left
    · rw [hkb, if_pos rfl] at HR
      clear hkb
      go_upto_region 6 with (refine wpList_put_row rfl rfl 69 (.tmp 3) _ rfl w.heap.size rfl 69 X X2 rfl HS.out.box (by rw [rx_size HX2.out]; kernel_rfl) (by rw [rx_size HX.out, rx_size HX2.out]) (rx_one HX2.out) ?_)
      have HS4 := Lib.hid ((HS.out.put X2).kills hfu2)
      have HX4 := HX2
      clear HS HX HX2 hfu2
      generalize w2.setRow w.heap.size X2 = w3 at *
      generalize X2 = X at *
      have HO := Lib.hid (HS4.out.out HX4.out 3)
      rw [← HR.out] at HO
      go_wp2_with (first | (refine wpList_load_row rfl 69 (.tmp 3) rfl w.heap.size rfl 69 X _ _ HS4.out.box.out Try.underlying69 rfl (by rw [rx_size HX4.out]; kernel_rfl) ?_) | (refine wpList_put_row rfl rfl 69 (.tmp 6) _ rfl (w.heap.size + 1) rfl 69 _ X rfl HS4.out.res (by rw [rx_size HX4.out]; kernel_rfl) (by rw [rx_size HX4.out]; rfl) (rx_one HX4.out) ?_))
      refine bodyPost_ret (results_cell_row2 rfl _ _ (w.heap.size + 1) 69 X (0, 0) _ rfl (HS4.out.res.row X).out Try.underlying69 rfl (by rw [rx_size HX4.out]; kernel_rfl)) rfl ?_
      exact HO.out
    rw [hkb, if_neg (by simp)] at HR
    clear hkb
    go_upto_region 6 with (refine wpList_put_row rfl rfl 69 (.tmp 3) _ rfl w.heap.size rfl 69 X X2 rfl HS.out.box (by rw [rx_size HX2.out]; kernel_rfl) (by rw [rx_size HX.out, rx_size HX2.out]) (rx_one HX2.out) ?_)
    have HS4 := Lib.hid ((HS.out.put X2).kills hfu2)
    have HX4 := HX2
    clear HS HX HX2 hfu2
    generalize w2.setRow w.heap.size X2 = w3 at *
    generalize X2 = X at *
    have HC := Lib.hid (join_any (w := w3) (B := w3.heap.size) (Nat.le_refl _) none A 0 c [] b 0 32 rfl HN.out (by omega) (by omega) Row.nil (Row.more (Row.below HI.out HS4.out.low) HS4.out.low.size))
    go_wp2_with fail
    refine Calls.mono HC.out ?_
    rintro e w5 ⟨u, rfl, hown, hb5⟩
    rw [List.nil_append] at hown
    generalize b.length = n5 at hown
    obtain ⟨A5, c5, hu⟩ := own_form hown
    subst hu
    have HREF := Lib.hid (HS4.out.own hb5 hown)
    have HS6 := Lib.hid (HS4.out.below hb5)
    have qa := HS6.out.box.at_ 8 (by rw [HX4.out]; rfl)
    have qf := HS6.out.box.frozen 8
    have HX7 : Hid (X.setIfInBounds 8 (.slice A5 n5 c5) = rcells (putS 1 b (killed s)) (upd v 8 (A5, n5, c5)) cl2 k) := Lib.hid (by rw [HX4.out]; rfl)
    have HS7 := Lib.hid ((HS6.out.re (HS6.out.rv.writes1 HREF.out)).cell 8 (.slice A5 n5 c5))
    clear hown hb5 HC HS4 HREF HS6
    go_upto_region 9 with fail
    clear qa qf
    generalize X.setIfInBounds 8 (.slice A5 n5 c5) = X7 at *
    generalize w5.setCell ⟨w.heap.size, 8, none⟩ (.slice A5 n5 c5) = w7 at *
    have HO := Lib.hid (HS7.out.out HX7.out 0)
    rw [← HR.out] at HO
    go_wp2_with (first | (refine wpList_load_row rfl 69 (.tmp 3) rfl w.heap.size rfl 69 X7 _ _ HS7.out.box.out Try.underlying69 rfl (by rw [rx_size HX7.out]; kernel_rfl) ?_) | (refine wpList_put_row rfl rfl 69 (.tmp 6) _ rfl (w.heap.size + 1) rfl 69 _ X7 rfl HS7.out.res (by rw [rx_size HX7.out]; kernel_rfl) (by rw [rx_size HX7.out]; rfl) (rx_one HX7.out) ?_))
    refine bodyPost_ret (results_cell_row2 rfl _ _ (w.heap.size + 1) 69 X7 (0, 0) _ rfl (HS7.out.res.row X7).out Try.underlying69 rfl (by rw [rx_size HX7.out]; kernel_rfl)) rfl ?_
    exact HO.out
end
end Go.Proofs.Ytpohefpiidlnjaa.Dr
