/-
  The walks of the document's disk: SyncHead, Fuse, New.
-/
import Derived.Test.YtpohefpiidlnjaaDiskRef4
namespace Go.Proofs.Ytpohefpiidlnjaa.Dr
set_option linter.unusedVariables false
open Go Go.RowKit Go.Proofs Go.Proofs.Ytpohefpiidlnjaa Go.Proofs.Ytpohefpiidlnjaa.Wd
open Go.Proofs.Ytpohefpiidlnjaa.Dk (DS upd upd_eq upd_ne Fresh rd hd free own_empty Ok among_yes syncD syD putS wrD truncD trD after died fused syS sySs shD fuseD newD)
theorem syS_ok {s : DS} (h : Ok s) (i : Nat) : Ok (syS i s) := by
  unfold Dk.syS
  cases hw : s.wr i
  · rw [if_neg (by simp)]; exact h
  · rw [if_pos rfl]
    refine ⟨h.cap, h.room, h.safe, fun j hj => ?_, h.lo, h.fuse⟩
    show (upd s.sl i (s.lo i) j).length = 32
    by_cases e : j = i
    · subst e; rw [upd_eq]; exact h.lo j hj
    · rw [upd_ne e]; exact h.sl j hj
theorem RV.sys0 {w : World} {F : Nat → Prop} {s : DS} {v : Nat → Sl} {cl k : Int} (h : RV w F s v cl k) {x : Sl} (hx : Ref w F x (if s.wr 0 then s.lo 0 else s.sl 0)) : RV w F (syS 0 s) (upd (upd v 5 x) 6 (none, 0, 0)) cl k := by
  unfold Dk.syS
  cases hw : s.wr 0
  · rw [hw, if_neg (by simp)] at hx
    rw [if_neg (by simp)]
    exact ⟨h.a0, h.b0, h.a1, h.b1, hx, by rw [hw]; exact Ref.nil _ _, h.c1, h.d1, h.fu⟩
  · rw [hw, if_pos rfl] at hx
    rw [if_pos rfl]
    exact ⟨h.a0, h.b0, h.a1, h.b1, hx, Ref.nil _ _, h.c1, h.d1, h.fu⟩
theorem RV.sys1 {w : World} {F : Nat → Prop} {s : DS} {v : Nat → Sl} {cl k : Int} (h : RV w F s v cl k) {x : Sl} (hx : Ref w F x (if s.wr 1 then s.lo 1 else s.sl 1)) : RV w F (syS 1 s) (upd (upd v 7 x) 8 (none, 0, 0)) cl k := by
  unfold Dk.syS
  cases hw : s.wr 1
  · rw [hw, if_neg (by simp)] at hx
    rw [if_neg (by simp)]
    exact ⟨h.a0, h.b0, h.a1, h.b1, h.c0, h.d0, hx, by rw [hw]; exact Ref.nil _ _, h.fu⟩
  · rw [hw, if_pos rfl] at hx
    rw [if_pos rfl]
    exact ⟨h.a0, h.b0, h.a1, h.b1, h.c0, h.d0, hx, Ref.nil _ _, h.fu⟩
theorem syS_same (i : Nat) (s : DS) : (syS i s).dead = s.dead ∧ (syS i s).fuse = s.fuse ∧ (syS i s).cap = s.cap := by
  unfold Dk.syS
  cases s.wr i <;> exact ⟨rfl, rfl, rfl⟩
theorem RV.fused {w : World} {F : Nat → Prop} {s : DS} {v : Nat → Sl} {cl k : Int} (h : RV w F s v cl k) (o : Option (Nat × Nat)) {cl' k' : Int} (fu : ∀ a b, o = some (a, b) → cl' = a ∧ k' = b) : RV w F (Dk.fused s o) v cl' k' :=
  ⟨h.a0, h.b0, h.a1, h.b1, h.c0, h.d0, h.c1, h.d1, fu⟩
section
variable {w : World} {F : Nat → Prop} {s : DS} {v : Nat → Sl} {cl k : Int}
set_option maxRecDepth 100000 in
set_option maxHeartbeats 4000000 in
theorem rsyncHead (ok : Ok s) (h : RV w F s v cl k) (hF : ∀ j, F j → j < w.heap.size) :
    Calls Try.prog 48 #[rval s v cl k] w (Turned F (shD s) w) := by
  have HQ := Lib.hid h.fu
  obtain ⟨X, hX⟩ : ∃ X, X = rcells s v cl k := ⟨_, rfl⟩
  unfold rval
  rw [← hX]
  have HX := Lib.hid hX
  have hS := ST.start h hF (rx_size hX)
  clear hX h hF
  go_enter Try.func48, Try.ntmps48
  go_upto_region 1 with fail
  generalize ((w.alloc (.cells X 69)).alloc (.cells #[.int .i64 0, .slice none 0 0, .slice none 0 0, .slice none 0 0, .slice none 0 0, .slice none 0 0, .slice none 0 0, .slice none 0 0, .slice none 0 0, .bool false, .int .i64 0, .int .i64 0, .bool false] 69)) = w0 at *
  have HS := Lib.hid hS
  clear hS
  cases hd : s.dead
  rotate_left
  · have q12 := HS.out.box.at_ 12 (v := .bool true) (by rw [HX.out, ← hd]; rfl)
    have HR : Hid (shD s = (3, s)) := Lib.hid (by unfold Dk.shD; rw [if_pos hd])
    have HO := Lib.hid (HS.out.out HX.out 3)
    rw [← HR.out] at HO
    go_wp2_with (first | (refine wpList_load_row rfl 69 (.tmp 1) rfl w.heap.size rfl 69 X _ _ HS.out.box.out Try.underlying69 rfl (by rw [rx_size HX.out]; kernel_rfl) ?_) | (refine wpList_put_row rfl rfl 69 (.tmp 2) _ rfl (w.heap.size + 1) rfl 69 _ X rfl HS.out.res (by rw [rx_size HX.out]; kernel_rfl) (by rw [rx_size HX.out]; rfl) (rx_one HX.out) ?_))
    refine bodyPost_ret (results_cell_row2 rfl _ _ (w.heap.size + 1) 69 X (0, 0) _ rfl (HS.out.res.row X).out Try.underlying69 rfl (by rw [rx_size HX.out]; kernel_rfl)) rfl ?_
    exact HO.out
  have q12 := HS.out.box.at_ 12 (v := .bool false) (by rw [HX.out, ← hd]; rfl)
  have HD := Lib.hid hd
  have HOK := Lib.hid ok
  clear hd ok
  have HR : Hid (shD s = if kb s then (3, killed s) else (0, sySs (killed s) 2)) := Lib.hid (by
    unfold Dk.shD
    rw [if_neg (by rw [HD.out]; simp), after_r (s := s) (f := fun s => sySs s 2) (fl := fun _ s => s) (fun o => Dk.sySs_fused s o 2) (fun _ => rfl)])
  have HK := Lib.hid (rkills (w := w0) (v := v) HOK.out HQ.out)
  unfold rval at HK
  rw [← HX.out] at HK
  go_wp2_with (refine wpList_load_row rfl 69 (.tmp 1) rfl w.heap.size rfl 69 X _ _ HS.out.box.out Try.underlying69 rfl (by rw [rx_size HX.out]; kernel_rfl) ?_)
  refine Calls.mono HK.out ?_
  rintro e w2 ⟨⟨cl2, rfl, hfu2⟩, hb2⟩
  have HS1 := Lib.hid (HS.out.below hb2)
  clear HS HK hb2
  have HS := HS1
  clear HS1
  obtain ⟨X2, hX2⟩ : ∃ X2, X2 = rcells (killed s) v cl2 k := ⟨_, rfl⟩
  unfold rval
  rw [← hX2]
  have HX2 := Lib.hid hX2
  clear hX2
  cases hkb : kb s
  rotate_left
  · rw [hkb, if_pos rfl] at HR
    clear hkb
    go_upto_region 4 with (refine wpList_put_row rfl rfl 69 (.tmp 1) _ rfl w.heap.size rfl 69 X X2 rfl HS.out.box (by rw [rx_size HX2.out]; kernel_rfl) (by rw [rx_size HX.out, rx_size HX2.out]) (rx_one HX2.out) ?_)
    have HS4 := Lib.hid ((HS.out.put X2).kills hfu2)
    have HX4 := HX2
    clear HS HX HX2 hfu2
    generalize w2.setRow w.heap.size X2 = w3 at *
    generalize X2 = X at *
    have HO := Lib.hid (HS4.out.out HX4.out 3)
    rw [← HR.out] at HO
    go_wp2_with (first | (refine wpList_load_row rfl 69 (.tmp 1) rfl w.heap.size rfl 69 X _ _ HS4.out.box.out Try.underlying69 rfl (by rw [rx_size HX4.out]; kernel_rfl) ?_) | (refine wpList_put_row rfl rfl 69 (.tmp 2) _ rfl (w.heap.size + 1) rfl 69 _ X rfl HS4.out.res (by rw [rx_size HX4.out]; kernel_rfl) (by rw [rx_size HX4.out]; rfl) (rx_one HX4.out) ?_))
    refine bodyPost_ret (results_cell_row2 rfl _ _ (w.heap.size + 1) 69 X (0, 0) _ rfl (HS4.out.res.row X).out Try.underlying69 rfl (by rw [rx_size HX4.out]; kernel_rfl)) rfl ?_
    exact HO.out
  rw [hkb, if_neg (by simp)] at HR
  have HDK : Hid ((killed s).dead = false) := Lib.hid (by rw [killed_dead, hkb, HD.out]; rfl)
  clear hkb
  go_upto_region 4 with (refine wpList_put_row rfl rfl 69 (.tmp 1) _ rfl w.heap.size rfl 69 X X2 rfl HS.out.box (by rw [rx_size HX2.out]; kernel_rfl) (by rw [rx_size HX.out, rx_size HX2.out]) (rx_one HX2.out) ?_)
  have HS4 := Lib.hid ((HS.out.put X2).kills hfu2)
  have HX4 := HX2
  clear HS HX HX2 hfu2
  generalize w2.setRow w.heap.size X2 = w3 at *
  generalize X2 = X at *
  go_wp2_with fail
  have HOK2 := Lib.hid (killed_ok HOK.out)
  clear q12
  go_loopw [5] (fun i wr => ∃ (j : Nat), j ≤ 2 ∧ i = .int .i64 j ∧ ∃ (t : DS) (X : Array Value) (v : Nat → Sl), Hid (ST F w wr X t v cl2 k) ∧ Hid (X = rcells t v cl2 k) ∧ Hid (t.dead = false) ∧ Hid (Ok t) ∧ Hid (t = sySs (killed s) j)) (fun i _ => 2 - (intOf i).toNat)
  case atStart => exact ⟨0, Nat.zero_le _, rfl, _, _, _, HS4, HX4, HDK, HOK2, Lib.hid rfl⟩
  case round =>
    obtain ⟨j, hj, rfl, t, X, v, HS, HX, HDT, HOKT, HT⟩ := hrel
    clear HS4 HX4
    generalize cl2 = cl at *
    rcases (by omega : j = 0 ∨ j = 1 ∨ j = 2) with rfl | rfl | rfl
    all_goals simp only [Int.cast_ofNat_Int]
    · have hhd : hd t 0 = if t.wr 0 then t.lo 0 else t.sl 0 := by unfold Dk.hd; rw [HDT.out, if_neg (by simp), if_pos (by decide)]; rfl
      have HC := Lib.hid (rhead HOKT.out HS.out.rv 0)
      rw [hhd] at HC
      unfold rval at HC
      rw [← HX.out] at HC
      clear hhd
      go_wp2_with (refine wpList_load_row rfl 69 (.tmp 1) rfl w.heap.size rfl 69 X _ _ HS.out.box.out Try.underlying69 rfl (by rw [rx_size HX.out]; kernel_rfl) ?_)
      refine Calls.mono HC.out ?_
      rintro e w5 ⟨⟨⟨A5, n5, c5⟩, rfl, href⟩, hb5⟩
      have HS6 := Lib.hid (HS.out.below hb5)
      have qa := HS6.out.box.at_ 5 (by rw [HX.out]; rfl)
      have qb := HS6.out.box.at_ 6 (by rw [HX.out]; rfl)
      have qf := HS6.out.box.frozen 5
      have qg := HS6.out.box.frozen 6
      have HX7 : Hid ((X.setIfInBounds 5 (.slice A5 n5 c5)).setIfInBounds 6 (.slice none 0 0) = rcells (syS 0 t) (upd (upd v 5 (A5, n5, c5)) 6 (none, 0, 0)) cl k) := Lib.hid (by rw [HX.out]; unfold rcells; rw [(syS_same 0 t).1, (syS_same 0 t).2.1, (syS_same 0 t).2.2]; rfl)
      have HS7 := Lib.hid (((HS6.out.re (HS6.out.rv.sys0 href)).cell 5 (.slice A5 n5 c5)).cell 6 (.slice none 0 0))
      have HD7 : Hid ((syS 0 t).dead = false) := Lib.hid (by rw [(syS_same 0 t).1]; exact HDT.out)
      have HO7 := Lib.hid (syS_ok HOKT.out 0)
      have HE7 : Hid (syS 0 t = sySs (killed s) 1) := Lib.hid (by show _ = syS 0 (sySs (killed s) 0); rw [← HT.out])
      clear href hb5 HC HS HS6
      go_wp2_with fail
      clear qa qb qf qg
      generalize (X.setIfInBounds 5 (.slice A5 n5 c5)).setIfInBounds 6 (.slice none 0 0) = X7 at *
      generalize (w5.setCell ⟨w.heap.size, 5, none⟩ (.slice A5 n5 c5)).setCell ⟨w.heap.size, 6, none⟩ (.slice none 0 0) = w7 at *
      go_roundw
      case rel => exact ⟨1, by omega, rfl, _, _, _, HS7, HX7, HD7, HO7, HE7⟩
      case measure => simp [intOf]
    · have hhd : hd t 1 = if t.wr 1 then t.lo 1 else t.sl 1 := by unfold Dk.hd; rw [HDT.out, if_neg (by simp), if_pos (by decide)]; rfl
      have HC := Lib.hid (rhead HOKT.out HS.out.rv 1)
      rw [hhd] at HC
      unfold rval at HC
      rw [← HX.out] at HC
      clear hhd
      go_wp2_with (refine wpList_load_row rfl 69 (.tmp 1) rfl w.heap.size rfl 69 X _ _ HS.out.box.out Try.underlying69 rfl (by rw [rx_size HX.out]; kernel_rfl) ?_)
      refine Calls.mono HC.out ?_
      rintro e w5 ⟨⟨⟨A5, n5, c5⟩, rfl, href⟩, hb5⟩
      have HS6 := Lib.hid (HS.out.below hb5)
      have qa := HS6.out.box.at_ 7 (by rw [HX.out]; rfl)
      have qb := HS6.out.box.at_ 8 (by rw [HX.out]; rfl)
      have qf := HS6.out.box.frozen 7
      have qg := HS6.out.box.frozen 8
      have HX7 : Hid ((X.setIfInBounds 7 (.slice A5 n5 c5)).setIfInBounds 8 (.slice none 0 0) = rcells (syS 1 t) (upd (upd v 7 (A5, n5, c5)) 8 (none, 0, 0)) cl k) := Lib.hid (by rw [HX.out]; unfold rcells; rw [(syS_same 1 t).1, (syS_same 1 t).2.1, (syS_same 1 t).2.2]; rfl)
      have HS7 := Lib.hid (((HS6.out.re (HS6.out.rv.sys1 href)).cell 7 (.slice A5 n5 c5)).cell 8 (.slice none 0 0))
      have HD7 : Hid ((syS 1 t).dead = false) := Lib.hid (by rw [(syS_same 1 t).1]; exact HDT.out)
      have HO7 := Lib.hid (syS_ok HOKT.out 1)
      have HE7 : Hid (syS 1 t = sySs (killed s) 2) := Lib.hid (by show _ = syS 1 (sySs (killed s) 1); rw [← HT.out])
      clear href hb5 HC HS HS6
      go_wp2_with fail
      clear qa qb qf qg
      generalize (X.setIfInBounds 7 (.slice A5 n5 c5)).setIfInBounds 8 (.slice none 0 0) = X7 at *
      generalize (w5.setCell ⟨w.heap.size, 7, none⟩ (.slice A5 n5 c5)).setCell ⟨w.heap.size, 8, none⟩ (.slice none 0 0) = w7 at *
      go_roundw
      case rel => exact ⟨2, by omega, rfl, _, _, _, HS7, HX7, HD7, HO7, HE7⟩
      case measure => simp [intOf]
    · rw [← HT.out] at HR
      have HO := Lib.hid (HS.out.out HX.out 0)
      rw [← HR.out] at HO
      go_wp2_with (first | (refine wpList_load_row rfl 69 (.tmp 1) rfl w.heap.size rfl 69 X _ _ HS.out.box.out Try.underlying69 rfl (by rw [rx_size HX.out]; kernel_rfl) ?_) | (refine wpList_put_row rfl rfl 69 (.tmp 2) _ rfl (w.heap.size + 1) rfl 69 _ X rfl HS.out.res (by rw [rx_size HX.out]; kernel_rfl) (by rw [rx_size HX.out]; rfl) (rx_one HX.out) ?_))
      refine bodyPost_ret (results_cell_row2 rfl _ _ (w.heap.size + 1) 69 X (0, 0) _ rfl (HS.out.res.row X).out Try.underlying69 rfl (by rw [rx_size HX.out]; kernel_rfl)) rfl ?_
      exact HO.out
set_option maxRecDepth 100000 in
set_option maxHeartbeats 4000000 in
theorem rfuse (h : RV w F s v cl k) (hF : ∀ j, F j → j < w.heap.size) (calls part : Int) :
    Calls Try.prog 30 #[rval s v cl k, .int .i64 calls, .int .i64 part] w (Turned1 F (fuseD calls part s) w) := by
  obtain ⟨X, hX⟩ : ∃ X, X = rcells s v cl k := ⟨_, rfl⟩
  unfold rval
  rw [← hX]
  have HX := Lib.hid hX
  have hS := ST.start h hF (rx_size hX)
  clear hX h hF
  go_enter Try.func30, Try.ntmps30
  go_upto_region 1 with fail
  generalize ((w.alloc (.cells X 69)).alloc (.cells #[.int .i64 0, .slice none 0 0, .slice none 0 0, .slice none 0 0, .slice none 0 0, .slice none 0 0, .slice none 0 0, .slice none 0 0, .slice none 0 0, .bool false, .int .i64 0, .int .i64 0, .bool false] 69)) = w0 at *
  have HS := Lib.hid hS
  clear hS
  cases hd : s.dead
  rotate_left
  · have q12 := HS.out.box.at_ 12 (v := .bool true) (by rw [HX.out, ← hd]; rfl)
    have HR : Hid (fuseD calls part s = s) := Lib.hid (by unfold Dk.fuseD; rw [if_pos hd])
    have HO := Lib.hid (HS.out.out1 HX.out)
    rw [← HR.out] at HO
    go_wp2_with (first | (refine wpList_load_row rfl 69 (.tmp 3) rfl w.heap.size rfl 69 X _ _ HS.out.box.out Try.underlying69 rfl (by rw [rx_size HX.out]; kernel_rfl) ?_) | (refine wpList_put_row rfl rfl 69 (.tmp 6) _ rfl (w.heap.size + 1) rfl 69 _ X rfl HS.out.res (by rw [rx_size HX.out]; kernel_rfl) (by rw [rx_size HX.out]; rfl) (rx_one HX.out) ?_))
    refine bodyPost_ret (results_cell_row1 rfl _ _ (w.heap.size + 1) 69 X (0, 0) _ rfl (HS.out.res.row X).out Try.underlying69 rfl (by rw [rx_size HX.out]; kernel_rfl)) rfl ?_
    exact HO.out
  have q12 := HS.out.box.at_ 12 (v := .bool false) (by rw [HX.out, ← hd]; rfl)
  have HD := Lib.hid hd
  clear hd
  have q9 := HS.out.box.at_ 9 (v := .bool s.fuse.isSome) (by rw [HX.out]; rfl)
  have q10 := HS.out.box.at_ 10 (v := .int .i64 cl) (by rw [HX.out]; rfl)
  have q11 := HS.out.box.at_ 11 (v := .int .i64 k) (by rw [HX.out]; rfl)
  have f9 := HS.out.box.frozen 9
  have f10 := HS.out.box.frozen 10
  have f11 := HS.out.box.frozen 11
  have HR : Hid (fuseD calls part s = Dk.fused s (if calls < 0 then none else some (calls.toNat, part.toNat))) := Lib.hid (by unfold Dk.fuseD; rw [if_neg (by rw [HD.out]; simp)])
  by_cases hc : calls < 0
  all_goals by_cases hp : part < 0
  · rw [if_pos hc] at HR
    have HX7 : Hid ((((X.setIfInBounds 9 (.bool false)).setIfInBounds 10 (.int .i64 calls)).setIfInBounds 11 (.int .i64 part)).setIfInBounds 11 (.int .i64 0) = rcells (Dk.fused s none) v calls 0) := Lib.hid (by rw [HX.out]; rfl)
    have HS7 := Lib.hid (((((HS.out.re (HS.out.rv.fused none (cl' := calls) (k' := 0) (by intro a b e; cases e))).cell 9 (.bool false)).cell 10 (.int .i64 calls)).cell 11 (.int .i64 part)).cell 11 (.int .i64 0))
    have u1 : decide (0 ≤ calls) = false := by simp; omega
    have u2 : ¬ 0 ≤ calls := by omega
    go_upto_region 8 with fail
    clear q9 q10 q11 f9 f10 f11 q12 u1 u2
    generalize (((X.setIfInBounds 9 (.bool false)).setIfInBounds 10 (.int .i64 calls)).setIfInBounds 11 (.int .i64 part)).setIfInBounds 11 (.int .i64 0) = X7 at *
    generalize (((w0.setCell ⟨w.heap.size, 9, none⟩ (.bool false)).setCell ⟨w.heap.size, 10, none⟩ (.int .i64 calls)).setCell ⟨w.heap.size, 11, none⟩ (.int .i64 part)).setCell ⟨w.heap.size, 11, none⟩ (.int .i64 0) = w7 at *
    have HO := Lib.hid (HS7.out.out1 HX7.out)
    rw [← HR.out] at HO
    go_wp2_with (first | (refine wpList_load_row rfl 69 (.tmp 3) rfl w.heap.size rfl 69 X7 _ _ HS7.out.box.out Try.underlying69 rfl (by rw [rx_size HX7.out]; kernel_rfl) ?_) | (refine wpList_put_row rfl rfl 69 (.tmp 6) _ rfl (w.heap.size + 1) rfl 69 _ X7 rfl HS7.out.res (by rw [rx_size HX7.out]; kernel_rfl) (by rw [rx_size HX7.out]; rfl) (rx_one HX7.out) ?_))
    refine bodyPost_ret (results_cell_row1 rfl _ _ (w.heap.size + 1) 69 X7 (0, 0) _ rfl (HS7.out.res.row X7).out Try.underlying69 rfl (by rw [rx_size HX7.out]; kernel_rfl)) rfl ?_
    exact HO.out
  · rw [if_pos hc] at HR
    have HX7 : Hid (((X.setIfInBounds 9 (.bool false)).setIfInBounds 10 (.int .i64 calls)).setIfInBounds 11 (.int .i64 part) = rcells (Dk.fused s none) v calls part) := Lib.hid (by rw [HX.out]; rfl)
    have HS7 := Lib.hid ((((HS.out.re (HS.out.rv.fused none (cl' := calls) (k' := part) (by intro a b e; cases e))).cell 9 (.bool false)).cell 10 (.int .i64 calls)).cell 11 (.int .i64 part))
    have u1 : decide (0 ≤ calls) = false := by simp; omega
    have u2 : ¬ 0 ≤ calls := by omega
    go_upto_region 8 with fail
    clear q9 q10 q11 f9 f10 f11 q12 u1 u2
    generalize ((X.setIfInBounds 9 (.bool false)).setIfInBounds 10 (.int .i64 calls)).setIfInBounds 11 (.int .i64 part) = X7 at *
    generalize ((w0.setCell ⟨w.heap.size, 9, none⟩ (.bool false)).setCell ⟨w.heap.size, 10, none⟩ (.int .i64 calls)).setCell ⟨w.heap.size, 11, none⟩ (.int .i64 part) = w7 at *
    have HO := Lib.hid (HS7.out.out1 HX7.out)
    rw [← HR.out] at HO
    go_wp2_with (first | (refine wpList_load_row rfl 69 (.tmp 3) rfl w.heap.size rfl 69 X7 _ _ HS7.out.box.out Try.underlying69 rfl (by rw [rx_size HX7.out]; kernel_rfl) ?_) | (refine wpList_put_row rfl rfl 69 (.tmp 6) _ rfl (w.heap.size + 1) rfl 69 _ X7 rfl HS7.out.res (by rw [rx_size HX7.out]; kernel_rfl) (by rw [rx_size HX7.out]; rfl) (rx_one HX7.out) ?_))
    refine bodyPost_ret (results_cell_row1 rfl _ _ (w.heap.size + 1) 69 X7 (0, 0) _ rfl (HS7.out.res.row X7).out Try.underlying69 rfl (by rw [rx_size HX7.out]; kernel_rfl)) rfl ?_
    exact HO.out
  · rw [if_neg hc] at HR
    have HX7 : Hid ((((X.setIfInBounds 9 (.bool true)).setIfInBounds 10 (.int .i64 calls)).setIfInBounds 11 (.int .i64 part)).setIfInBounds 11 (.int .i64 0) = rcells (Dk.fused s (some (calls.toNat, part.toNat))) v calls 0) := Lib.hid (by rw [HX.out]; rfl)
    have HS7 := Lib.hid (((((HS.out.re (HS.out.rv.fused (some (calls.toNat, part.toNat)) (cl' := calls) (k' := 0) (by intro a b e; cases e; exact ⟨by omega, by omega⟩))).cell 9 (.bool true)).cell 10 (.int .i64 calls)).cell 11 (.int .i64 part)).cell 11 (.int .i64 0))
    have u1 : decide (0 ≤ calls) = true := by simp; omega
    have u2 : 0 ≤ calls := by omega
    go_upto_region 8 with fail
    clear q9 q10 q11 f9 f10 f11 q12 u1 u2
    generalize (((X.setIfInBounds 9 (.bool true)).setIfInBounds 10 (.int .i64 calls)).setIfInBounds 11 (.int .i64 part)).setIfInBounds 11 (.int .i64 0) = X7 at *
    generalize (((w0.setCell ⟨w.heap.size, 9, none⟩ (.bool true)).setCell ⟨w.heap.size, 10, none⟩ (.int .i64 calls)).setCell ⟨w.heap.size, 11, none⟩ (.int .i64 part)).setCell ⟨w.heap.size, 11, none⟩ (.int .i64 0) = w7 at *
    have HO := Lib.hid (HS7.out.out1 HX7.out)
    rw [← HR.out] at HO
    go_wp2_with (first | (refine wpList_load_row rfl 69 (.tmp 3) rfl w.heap.size rfl 69 X7 _ _ HS7.out.box.out Try.underlying69 rfl (by rw [rx_size HX7.out]; kernel_rfl) ?_) | (refine wpList_put_row rfl rfl 69 (.tmp 6) _ rfl (w.heap.size + 1) rfl 69 _ X7 rfl HS7.out.res (by rw [rx_size HX7.out]; kernel_rfl) (by rw [rx_size HX7.out]; rfl) (rx_one HX7.out) ?_))
    refine bodyPost_ret (results_cell_row1 rfl _ _ (w.heap.size + 1) 69 X7 (0, 0) _ rfl (HS7.out.res.row X7).out Try.underlying69 rfl (by rw [rx_size HX7.out]; kernel_rfl)) rfl ?_
    exact HO.out
  · rw [if_neg hc] at HR
    have HX7 : Hid (((X.setIfInBounds 9 (.bool true)).setIfInBounds 10 (.int .i64 calls)).setIfInBounds 11 (.int .i64 part) = rcells (Dk.fused s (some (calls.toNat, part.toNat))) v calls part) := Lib.hid (by rw [HX.out]; rfl)
    have HS7 := Lib.hid ((((HS.out.re (HS.out.rv.fused (some (calls.toNat, part.toNat)) (cl' := calls) (k' := part) (by intro a b e; cases e; exact ⟨by omega, by omega⟩))).cell 9 (.bool true)).cell 10 (.int .i64 calls)).cell 11 (.int .i64 part))
    have u1 : decide (0 ≤ calls) = true := by simp; omega
    have u2 : 0 ≤ calls := by omega
    go_upto_region 8 with fail
    clear q9 q10 q11 f9 f10 f11 q12 u1 u2
    generalize ((X.setIfInBounds 9 (.bool true)).setIfInBounds 10 (.int .i64 calls)).setIfInBounds 11 (.int .i64 part) = X7 at *
    generalize ((w0.setCell ⟨w.heap.size, 9, none⟩ (.bool true)).setCell ⟨w.heap.size, 10, none⟩ (.int .i64 calls)).setCell ⟨w.heap.size, 11, none⟩ (.int .i64 part) = w7 at *
    have HO := Lib.hid (HS7.out.out1 HX7.out)
    rw [← HR.out] at HO
    go_wp2_with (first | (refine wpList_load_row rfl 69 (.tmp 3) rfl w.heap.size rfl 69 X7 _ _ HS7.out.box.out Try.underlying69 rfl (by rw [rx_size HX7.out]; kernel_rfl) ?_) | (refine wpList_put_row rfl rfl 69 (.tmp 6) _ rfl (w.heap.size + 1) rfl 69 _ X7 rfl HS7.out.res (by rw [rx_size HX7.out]; kernel_rfl) (by rw [rx_size HX7.out]; rfl) (rx_one HX7.out) ?_))
    refine bodyPost_ret (results_cell_row1 rfl _ _ (w.heap.size + 1) 69 X7 (0, 0) _ rfl (HS7.out.res.row X7).out Try.underlying69 rfl (by rw [rx_size HX7.out]; kernel_rfl)) rfl ?_
    exact HO.out
end
end Go.Proofs.Ytpohefpiidlnjaa.Dr
