/-
  The walks of the document's disk: Truncate.
-/
import Derived.Test.YtgajgjijnpigoaaDiskRef4
namespace Go.Proofs.Ytgajgjijnpigoaa.Dr
set_option linter.unusedVariables false
open Go Go.RowKit Go.Proofs Go.Proofs.Ytgajgjijnpigoaa Go.Proofs.Ytgajgjijnpigoaa.Wd
open Go.Proofs.Ytgajgjijnpigoaa.Dk (DS upd upd_eq upd_ne Fresh rd hd free own_empty Ok among_yes syncD syD putS wrD truncD trD after died fused)
theorem RV.truncs0 {w : World} {F : Nat → Prop} {s : DS} {v : Nat → Sl} {cl k : Int} (h : RV w F s v cl k) {n : Nat} {x y : Sl} (hx : Ref w F x (((s.all 0).take n).take (min (s.safe 0) n))) (hy : Ref w F y (((s.all 0).take n).drop (min (s.safe 0) n))) : RV w F (truncD 0 n s) (upd (upd v 1 x) 2 y) cl k :=
  ⟨hx, hy, h.a1, h.b1, h.c0, h.d0, h.c1, h.d1, h.fu⟩
theorem RV.truncs1 {w : World} {F : Nat → Prop} {s : DS} {v : Nat → Sl} {cl k : Int} (h : RV w F s v cl k) {n : Nat} {x y : Sl} (hx : Ref w F x (((s.all 1).take n).take (min (s.safe 1) n))) (hy : Ref w F y (((s.all 1).take n).drop (min (s.safe 1) n))) : RV w F (truncD 1 n s) (upd (upd v 3 x) 4 y) cl k :=
  ⟨h.a0, h.b0, hx, hy, h.c0, h.d0, h.c1, h.d1, h.fu⟩
/-- An own row of bytes: its block, or none. -/
theorem own_block {w : World} {base n c : Nat} {A : Option Addr} {l : List UInt8} (h : w.ownsRow base 5 1 (.slice A n c) n (bs l)) : n = l.length ∧ n ≤ c ∧ c ≤ maxLen ∧ ((A = none ∧ l = [] ∧ n = 0 ∧ c = 0) ∨ ∃ g, A = some ⟨g, 0, none⟩ ∧ base ≤ g ∧ Bytes w w.heap.size (some ⟨g, 0, none⟩) l) := by
  obtain ⟨A', c', e, h1, h2, h3⟩ := own_bytes h
  cases e
  refine ⟨h2, h1, own_cap' h, ?_⟩
  rcases h.2 with ⟨h4, h0⟩ | ⟨g, cap, cur, h4, hg, -⟩
  · cases h4
    exact .inl ⟨rfl, List.eq_nil_of_length_eq_zero (by omega), rfl, rfl⟩
  · cases h4
    exact .inr ⟨g, rfl, hg, h3⟩
theorem wpList_wantedR {P : Program} {ops : Array Oper} {rest : List Oper} {o : Oper} {a : Act} {w : World} {Q : Exit → Act → World → Prop} (hw : Region.wanted o (yielded ops a.tmps) = true)
    (h : ∀ K : Act → World → Prop, (∀ a' w', wpList P ops Q rest a' w' → K a' w') → o.wp P a w K Q) : wpList P ops Q (o :: rest) a w := by
  unfold wpList
  rw [if_pos hw]
  exact .inl (h _ fun _ _ hh => hh)
theorem wpList_load_row_g {P : Program} {ops : Array Oper} {rest : List Oper} {o : Oper} {a : Act} {w : World} {Q : Exit → Act → World → Prop} (hw : Region.wanted o (yielded ops a.tmps) = true) (ty : TypeId) (x : Operand) (ho : o.op = .load ty x)
    (g : Nat) (hx : a.eval x = .pointer (some ⟨g, 0, none⟩)) (t : TypeId) (cs : Array Value) (fr : Nat × Nat) (d : TypeDesc) (hg : w.heap[g]? = some (.cells cs t fr))
    (hu : P.underlying ty = some d) (hd : (match d with | .struct _ | .array _ _ => true | _ => false) = true) (hi : (P.info? ty).map (·.size) = some cs.size)
    (h : wpList P ops Q rest (a.put o.dst (.agg cs)) w) : wpList P ops Q (o :: rest) a w :=
  wpList_wantedR hw fun _ hK => wp_load_row ty x ho g hx t cs fr d hg hu hd hi (hK _ _ h)
section
variable {w : World} {F : Nat → Prop} {s : DS} {v : Nat → Sl} {cl k : Int}
set_option maxRecDepth 100000 in
set_option maxHeartbeats 4000000 in
theorem rtrunc (ok : Ok s) (h : RV w F s v cl k) (hF : ∀ j, F j → j < w.heap.size) (seg n : Int) :
    Calls Try.prog 45 #[rval s v cl k, .int .i64 seg, .int .i64 n] w (Turned F (trD s seg n) w) := by
  have HQ := Lib.hid h.fu
  obtain ⟨X, hX⟩ : ∃ X, X = rcells s v cl k := ⟨_, rfl⟩
  unfold rval
  rw [← hX]
  have HX := Lib.hid hX
  have hS := ST.start h hF (rx_size hX)
  clear hX h hF
  go_enter Try.func45, Try.ntmps45
  go_upto_region 1 with fail
  generalize ((w.alloc (.cells X 53)).alloc (.cells #[.int .i64 0, .slice none 0 0, .slice none 0 0, .slice none 0 0, .slice none 0 0, .slice none 0 0, .slice none 0 0, .slice none 0 0, .slice none 0 0, .bool false, .int .i64 0, .int .i64 0, .bool false] 53)) = w0 at *
  have HS := Lib.hid hS
  clear hS
  cases hd : s.dead
  rotate_left
  · have q12 := HS.out.box.at_ 12 (v := .bool true) (by rw [HX.out, ← hd]; rfl)
    have HR : Hid (trD s seg n = (3, s)) := Lib.hid (by unfold Dk.trD; rw [if_pos hd])
    have HO := Lib.hid (HS.out.out HX.out 3)
    rw [← HR.out] at HO
    go_wp2_with (first | (refine wpList_load_row rfl 53 (.tmp 3) rfl w.heap.size rfl 53 X _ _ HS.out.box.out Try.underlying53 rfl (by rw [rx_size HX.out]; kernel_rfl) ?_) | (refine wpList_put_row rfl rfl 53 (.tmp 6) _ rfl (w.heap.size + 1) rfl 53 _ X rfl HS.out.res (by rw [rx_size HX.out]; kernel_rfl) (by rw [rx_size HX.out]; rfl) (rx_one HX.out) ?_))
    refine bodyPost_ret (results_cell_row2 rfl _ _ (w.heap.size + 1) 53 X (0, 0) _ rfl (HS.out.res.row X).out Try.underlying53 rfl (by rw [rx_size HX.out]; kernel_rfl)) rfl ?_
    exact HO.out
  have q12 := HS.out.box.at_ 12 (v := .bool false) (by rw [HX.out, ← hd]; rfl)
  have hwd : ((decide (seg = 0) || decide (seg = 1)) = false ∨ n < 0 ∨ ((s.all seg.toNat).length : Int) < n) → trD s seg n = (2, s) := fun hx => by
    unfold Dk.trD
    rw [if_neg (by rw [hd]; simp), if_pos hx]
  by_cases h0 : seg < 0
  · have HR := Lib.hid (hwd (.inl (by simp; omega)))
    clear hwd
    have HO := Lib.hid (HS.out.out HX.out 2)
    rw [← HR.out] at HO
    go_wp2_with (first | (refine wpList_load_row rfl 53 (.tmp 3) rfl w.heap.size rfl 53 X _ _ HS.out.box.out Try.underlying53 rfl (by rw [rx_size HX.out]; kernel_rfl) ?_) | (refine wpList_put_row rfl rfl 53 (.tmp 6) _ rfl (w.heap.size + 1) rfl 53 _ X rfl HS.out.res (by rw [rx_size HX.out]; kernel_rfl) (by rw [rx_size HX.out]; rfl) (rx_one HX.out) ?_))
    refine bodyPost_ret (results_cell_row2 rfl _ _ (w.heap.size + 1) 53 X (0, 0) _ rfl (HS.out.res.row X).out Try.underlying53 rfl (by rw [rx_size HX.out]; kernel_rfl)) rfl ?_
    exact HO.out
  by_cases h1 : 1 < seg
  · have HR := Lib.hid (hwd (.inl (by simp; omega)))
    clear hwd
    have HO := Lib.hid (HS.out.out HX.out 2)
    rw [← HR.out] at HO
    go_wp2_with (first | (refine wpList_load_row rfl 53 (.tmp 3) rfl w.heap.size rfl 53 X _ _ HS.out.box.out Try.underlying53 rfl (by rw [rx_size HX.out]; kernel_rfl) ?_) | (refine wpList_put_row rfl rfl 53 (.tmp 6) _ rfl (w.heap.size + 1) rfl 53 _ X rfl HS.out.res (by rw [rx_size HX.out]; kernel_rfl) (by rw [rx_size HX.out]; rfl) (rx_one HX.out) ?_))
    refine bodyPost_ret (results_cell_row2 rfl _ _ (w.heap.size + 1) 53 X (0, 0) _ rfl (HS.out.res.row X).out Try.underlying53 rfl (by rw [rx_size HX.out]; kernel_rfl)) rfl ?_
    exact HO.out
  by_cases hn0 : n < 0
  · have HR := Lib.hid (hwd (.inr (.inl hn0)))
    clear hwd
    have HO := Lib.hid (HS.out.out HX.out 2)
    rw [← HR.out] at HO
    go_wp2_with (first | (refine wpList_load_row rfl 53 (.tmp 3) rfl w.heap.size rfl 53 X _ _ HS.out.box.out Try.underlying53 rfl (by rw [rx_size HX.out]; kernel_rfl) ?_) | (refine wpList_put_row rfl rfl 53 (.tmp 6) _ rfl (w.heap.size + 1) rfl 53 _ X rfl HS.out.res (by rw [rx_size HX.out]; kernel_rfl) (by rw [rx_size HX.out]; rfl) (rx_one HX.out) ?_))
    refine bodyPost_ret (results_cell_row2 rfl _ _ (w.heap.size + 1) 53 X (0, 0) _ rfl (HS.out.res.row X).out Try.underlying53 rfl (by rw [rx_size HX.out]; kernel_rfl)) rfl ?_
    exact HO.out
  have HD := Lib.hid hd
  have HOK := Lib.hid ok
  have HWD := Lib.hid hwd
  clear hd ok hwd
  rcases (by omega : seg = 0 ∨ seg = 1) with rfl | rfl
  all_goals clear h0 h1
  · have HC := Lib.hid (all0 HOK.out HS.out.rv)
    unfold rval at HC
    rw [← HX.out] at HC
    obtain ⟨m, rfl⟩ : ∃ m : Nat, n = m := ⟨n.toNat, by omega⟩
    have hlen : (s.all 0).length ≤ 1048576 := by have := HOK.out.room; have := HOK.out.cap; omega
    go_wp2_with (refine wpList_load_row_g (by simp only [Region.wanted, yielded]; go_simp) 53 (.tmp 3) rfl w.heap.size rfl 53 X _ _ HS.out.box.out Try.underlying53 rfl (by rw [rx_size HX.out]; kernel_rfl) ?_)
    refine Calls.mono HC.out ?_
    rintro e w1 ⟨u, rfl, hown, hb1⟩
    obtain ⟨A1, c1, hu⟩ := own_form hown
    subst hu
    have HS1 := Lib.hid (HS.out.below hb1)
    clear HS HC hown hb1 q12
    have HS := HS1
    clear HS1
    generalize hnl : (s.all 0).length = nl at *
    have HNL := Lib.hid hnl
    clear hnl
    by_cases hbig : nl < m
    · have u1 : (nl : Int) < (m : Int) := by omega
      have HR : Hid (trD s 0 (m : Int) = (2, s)) := Lib.hid (HWD.out (.inr (.inr (by show (((s.all 0).length : Nat) : Int) < _; rw [HNL.out]; exact u1))))
      have HO := Lib.hid (HS.out.out HX.out 2)
      rw [← HR.out] at HO
      go_wp2_with (first | (refine wpList_load_row rfl 53 (.tmp 3) rfl w.heap.size rfl 53 X _ _ HS.out.box.out Try.underlying53 rfl (by rw [rx_size HX.out]; kernel_rfl) ?_) | (refine wpList_put_row rfl rfl 53 (.tmp 6) _ rfl (w.heap.size + 1) rfl 53 _ X rfl HS.out.res (by rw [rx_size HX.out]; kernel_rfl) (by rw [rx_size HX.out]; rfl) (rx_one HX.out) ?_))
      refine bodyPost_ret (results_cell_row2 rfl _ _ (w.heap.size + 1) 53 X (0, 0) _ rfl (HS.out.res.row X).out Try.underlying53 rfl (by rw [rx_size HX.out]; kernel_rfl)) rfl ?_
      exact HO.out
    have u1 : ¬ (nl : Int) < (m : Int) := by omega
    have HR : Hid (trD s 0 (m : Int) = if kb s then (3, killed s) else (0, truncD 0 m (killed s))) := Lib.hid (by
      unfold Dk.trD
      rw [if_neg (by rw [HD.out]; simp), if_neg, after_r (s := s) (f := truncD (Int.toNat 0) (Int.toNat (m : Int))) (fl := fun _ s => s) (fun _ => rfl) (fun _ => rfl), Int.toNat_natCast]
      · rfl
      · rintro (h1 | h1 | h1)
        · exact absurd h1 (by decide)
        · omega
        · exact u1 (by rw [← HNL.out]; exact h1))
    clear HWD
    have HK := Lib.hid (rkills (w := w1) (v := v) HOK.out HQ.out)
    unfold rval at HK
    rw [← HX.out] at HK
    go_wp2_with (refine wpList_load_row rfl 53 (.tmp 3) rfl w.heap.size rfl 53 X _ _ HS.out.box.out Try.underlying53 rfl (by rw [rx_size HX.out]; kernel_rfl) ?_)
    refine Calls.mono HK.out ?_
    rintro e w2 ⟨⟨cl2, rfl, hfu2⟩, hb2⟩
    have HS1 := Lib.hid (HS.out.below hb2)
    clear HS HK hb2
    have HS := HS1
    clear HS1
    obtain ⟨X2, hX2⟩ : ∃ X2, X2 = rcells (killed s) v cl2 k := ⟨_, rfl⟩
    unfold rval
    rw [← hX2]
    have HX2 := Lib.hid hX2
    clear hX2
    cases hkb : kb s
    rotate_left
    · rw [hkb, if_pos rfl] at HR
      clear hkb
      go_upto_region 6 with (refine wpList_put_row rfl rfl 53 (.tmp 3) _ rfl w.heap.size rfl 53 X X2 rfl HS.out.box (by rw [rx_size HX2.out]; kernel_rfl) (by rw [rx_size HX.out, rx_size HX2.out]) (rx_one HX2.out) ?_)
      have HS4 := Lib.hid ((HS.out.put X2).kills hfu2)
      have HX4 := HX2
      clear HS HX HX2 hfu2
      generalize w2.setRow w.heap.size X2 = w3 at *
      generalize X2 = X at *
      have HO := Lib.hid (HS4.out.out HX4.out 3)
      rw [← HR.out] at HO
      go_wp2_with (first | (refine wpList_load_row rfl 53 (.tmp 3) rfl w.heap.size rfl 53 X _ _ HS4.out.box.out Try.underlying53 rfl (by rw [rx_size HX4.out]; kernel_rfl) ?_) | (refine wpList_put_row rfl rfl 53 (.tmp 6) _ rfl (w.heap.size + 1) rfl 53 _ X rfl HS4.out.res (by rw [rx_size HX4.out]; kernel_rfl) (by rw [rx_size HX4.out]; rfl) (rx_one HX4.out) ?_))
      refine bodyPost_ret (results_cell_row2 rfl _ _ (w.heap.size + 1) 53 X (0, 0) _ rfl (HS4.out.res.row X).out Try.underlying53 rfl (by rw [rx_size HX4.out]; kernel_rfl)) rfl ?_
      exact HO.out
    rw [hkb, if_neg (by simp)] at HR
    clear hkb
    go_upto_region 6 with (refine wpList_put_row rfl rfl 53 (.tmp 3) _ rfl w.heap.size rfl 53 X X2 rfl HS.out.box (by rw [rx_size HX2.out]; kernel_rfl) (by rw [rx_size HX.out, rx_size HX2.out]) (rx_one HX2.out) ?_)
    have HS4 := Lib.hid ((HS.out.put X2).kills hfu2)
    have HX4 := HX2
    clear HS HX HX2 hfu2
    generalize w2.setRow w.heap.size X2 = w3 at *
    generalize X2 = X at *
    have HC := Lib.hid (all0 (killed_ok HOK.out) HS4.out.rv)
    unfold rval at HC
    rw [← HX4.out] at HC
    have hsf := HS4.out.rv.a0.len
    have hss := (killed_ok HOK.out).safe 0 (by omega)
    have hke : (killed s).all = s.all := (killed_all s).1
    have HTR := Lib.hid (fun (W : World) (x y : Sl) (hr : RV W (Two F w.heap.size) (killed s) v cl2 k) => RV.truncs0 (n := m) (x := x) (y := y) hr)
    rw [List.length_take, hke] at hsf
    rw [hke] at hss HC HTR
    rw [HNL.out] at hss hsf
    have xa : X[1]? = some (.slice (v 1).1 (v 1).2.1 (v 1).2.2) := by rw [HX4.out]; rfl
    have xb : X[2]? = some (.slice (v 2).1 (v 2).2.1 (v 2).2.2) := by rw [HX4.out]; rfl
    have q := HS4.out.box.at_ 1 xa
    obtain ⟨sf0, hsf0⟩ : ∃ sf0, sf0 = (v 1).2.1 := ⟨_, rfl⟩
    rw [← hsf0] at xa q hsf
    have hs0 : (killed s).safe 0 = sf0 := by omega
    rw [hs0] at HTR hss
    clear hsf0 hsf hs0 hke
    generalize s.all 0 = l at *
    go_wp2_with (refine wpList_load_row rfl 53 (.tmp 3) rfl w.heap.size rfl 53 X _ _ HS4.out.box.out Try.underlying53 rfl (by rw [rx_size HX4.out]; kernel_rfl) ?_)
    refine Calls.mono HC.out ?_
    rintro e w5 ⟨u, rfl, hown, hb5⟩
    rw [HNL.out] at hown
    obtain ⟨A5, c5, hu⟩ := own_form hown
    subst hu
    obtain ⟨-, hnc, hcm, hblk⟩ := own_block hown
    unfold maxLen at hcm
    have hgl : w3.heap.size ≤ w3.heap.size := Nat.le_refl _
    have HS6 := Lib.hid (HS4.out.below hb5).drew
    have hL := HNL.out
    clear hown HC q hgl
    have u5 : (m : Int) ≤ (c5 : Int) := by omega
    obtain ⟨sf, hsfm⟩ : ∃ sf, sf = min sf0 m := ⟨_, rfl⟩
    rw [← hsfm] at HTR
    have u6 : (sf : Int) ≤ (c5 : Int) := by omega
    have u7 : (sf : Int) ≤ (m : Int) := by omega
    have hsm : sf ≤ m := by omega
    by_cases hlt : m < sf0
    · have u2 : (m : Int) < (sf0 : Int) := by omega
      obtain rfl : m = sf := by omega
      clear hsfm hlt
      go_upto_region 12 with fail
      clear u2
      rcases hblk with ⟨rfl, rfl, rfl, rfl⟩ | ⟨g, rfl, hg, hbts⟩
      · obtain rfl : m = 0 := by omega
        have HRA : Hid (Ref w5.drew (Two F w.heap.size) (none, 0, 0) ((List.take 0 ([] : List UInt8)).take 0)) := Lib.hid (Ref.nil _ _)
        have HC := Lib.hid (join_any (w := w5.drew) (B := w5.heap.size) (Nat.le_refl _) none none 0 0 [] (List.drop 0 (List.take 0 ([] : List UInt8))) 0 0 rfl rfl (by omega) (by omega) Row.nil Row.nil)
        refine wp_region_heldG [] (fun _ _ => True) (by kernel_rfl) ?_
        change wpAnyG _ _ _ _ _ _ 13 _ _ (World.drew _)
        -- take0 take1 take2 take3 take4 take5 take6 take7 take10 one8 one9 take11 one12 done
        refine g_take (i := 0) rfl rfl (by kernel_rfl) (by kernel_rfl) (by kernel_rfl) (by kernel_rfl) (by kernel_rfl) (fun _ _ _ h => h) trivial (fun L W hL hW => by go_simp; rfl) ?_
        refine g_take (i := 1) rfl rfl (by kernel_rfl) (by kernel_rfl) (by kernel_rfl) (by kernel_rfl) (by kernel_rfl) (fun _ _ _ h => h) trivial (fun L W hL hW => by go_simp; rfl) ?_
        refine g_take (i := 2) rfl rfl (by kernel_rfl) (by kernel_rfl) (by kernel_rfl) (by kernel_rfl) (by kernel_rfl) (fun _ _ _ h => h) trivial (fun L W hL hW => by go_simp; rfl) ?_
        refine g_take (i := 3) rfl rfl (by kernel_rfl) (by kernel_rfl) (by kernel_rfl) (by kernel_rfl) (by kernel_rfl) (fun _ _ _ h => h) trivial (fun L W hL hW => by go_simp; rfl) ?_
        refine g_take (i := 4) rfl rfl (by kernel_rfl) (by kernel_rfl) (by kernel_rfl) (by kernel_rfl) (by kernel_rfl) (fun _ _ _ h => h) trivial (fun L W hL hW => by go_simp; rfl) ?_
        refine g_take (i := 5) rfl rfl (by kernel_rfl) (by kernel_rfl) (by kernel_rfl) (by kernel_rfl) (by kernel_rfl) (fun _ _ _ h => h) trivial (fun L W hL hW => by go_simp; rfl) ?_
        refine g_take (i := 6) rfl rfl (by kernel_rfl) (by kernel_rfl) (by kernel_rfl) (by kernel_rfl) (by kernel_rfl) (fun _ _ _ h => h) trivial (fun L W hL hW => by go_simp; rfl) ?_
        refine g_take (i := 7) rfl rfl (by kernel_rfl) (by kernel_rfl) (by kernel_rfl) (by kernel_rfl) (by kernel_rfl) (fun _ _ _ h => h) trivial (fun L W hL hW => by go_simp; rfl) ?_
        refine g_take (i := 10) rfl rfl (by kernel_rfl) (by kernel_rfl) (by kernel_rfl) (by kernel_rfl) (by kernel_rfl) (fun _ _ _ h => h) trivial (fun L W hL hW => by go_simp; rfl) ?_
        refine g_one (i := 8) rfl rfl (by kernel_rfl) fun K hK => ?_
        go_simp
        refine Calls.mono HC.out ?_
        rintro e w6 ⟨u, rfl, hown, hb6⟩
        rw [List.nil_append] at hown
        generalize (List.drop 0 (List.take 0 [])).length = n6 at hown
        obtain ⟨A6, c6, hu⟩ := own_form hown
        subst hu
        have HREF := Lib.hid (HS6.out.own hb6 hown)
        have HREFA := Lib.hid (HRA.out.below hb6)
        have HS7 := Lib.hid (HS6.out.below hb6)
        clear hown hb6 HS6 HRA
        refine hK _ _ trivial ?_
        clear hK K
        refine g_one (i := 9) rfl rfl (by kernel_rfl) fun K hK => ?_
        go_simp
        refine hK _ _ trivial ?_
        clear hK K
        refine g_take (i := 11) rfl rfl (by kernel_rfl) (by kernel_rfl) (by kernel_rfl) (by kernel_rfl) (by kernel_rfl) (fun _ _ _ h => h) trivial (fun L W hL hW => by go_simp; rfl) ?_
        refine g_one (i := 12) rfl rfl (by kernel_rfl) fun K hK => ?_
        have qa := HS7.out.box.at_ 1 xa
        have qb := HS7.out.box.at_ 2 xb
        have qf := HS7.out.box.frozen 1
        have qg := HS7.out.box.frozen 2
        go_simp
        refine hK _ _ trivial ?_
        clear hK K qa qb qf qg
        refine wpAnyG_done (by kernel_rfl) ?_ _
        go_simp
        have HX8 : Hid ((X.setIfInBounds 1 (.slice none 0 0)).setIfInBounds 2 (.slice A6 n6 c6) = rcells (truncD 0 0 (killed s)) (upd (upd v 1 (none, 0, 0)) 2 (A6, n6, c6)) cl2 k) := Lib.hid (by rw [HX4.out]; rfl)
        have HS8 := Lib.hid (((HS7.out.re (HTR.out w6 _ _ HS7.out.rv HREFA.out HREF.out)).cell 1 (.slice none 0 0)).cell 2 (.slice A6 n6 c6))
        clear HS7 HREF HREFA HTR HC
        generalize (X.setIfInBounds 1 (.slice none 0 0)).setIfInBounds 2 (.slice A6 n6 c6) = X8 at *
        generalize (w6.setCell ⟨w.heap.size, 1, none⟩ (.slice none 0 0)).setCell ⟨w.heap.size, 2, none⟩ (.slice A6 n6 c6) = w8 at *
        have HO := Lib.hid (HS8.out.out HX8.out 0)
        rw [← HR.out] at HO
        go_wp2_with (first | (refine wpList_load_row rfl 53 (.tmp 3) rfl w.heap.size rfl 53 X8 _ _ HS8.out.box.out Try.underlying53 rfl (by rw [rx_size HX8.out]; kernel_rfl) ?_) | (refine wpList_put_row rfl rfl 53 (.tmp 6) _ rfl (w.heap.size + 1) rfl 53 _ X8 rfl HS8.out.res (by rw [rx_size HX8.out]; kernel_rfl) (by rw [rx_size HX8.out]; rfl) (rx_one HX8.out) ?_))
        refine bodyPost_ret (results_cell_row2 rfl _ _ (w.heap.size + 1) 53 X8 (0, 0) _ rfl (HS8.out.res.row X8).out Try.underlying53 rfl (by rw [rx_size HX8.out]; kernel_rfl)) rfl ?_
        exact HO.out
      · have HRA : Hid (Ref w5.drew (Two F w.heap.size) (some ⟨g, 0, none⟩, m, m) ((l.take m).take m)) := Lib.hid ⟨by simp; omega, Nat.le_refl _, by show m ≤ maxLen; unfold maxLen; omega, (hbts.head m).head m, fun _ b o e => by cases e; intro hf; have := HS4.out.lt _ hf; omega⟩
        by_cases hcap : c5 = m
        · have HC := Lib.hid (join_any (w := w5.drew) (B := w5.heap.size) (Nat.le_refl _) none (some ⟨g, 0, none⟩) 0 0 [] ((l.take m).drop m) 0 0 rfl (by simp <;> omega) (by omega) (by omega) Row.nil (by rw [List.drop_of_length_le (by simp; omega)]; exact Row.nil))
          refine wp_region_heldG [] (fun _ _ => True) (by kernel_rfl) ?_
          change wpAnyG _ _ _ _ _ _ 13 _ _ (World.drew _)
          -- take0 take1 take2 take3 take4 take5 take6 take7 take10 one8 one9 take11 one12 done
          refine g_take (i := 0) rfl rfl (by kernel_rfl) (by kernel_rfl) (by kernel_rfl) (by kernel_rfl) (by kernel_rfl) (fun _ _ _ h => h) trivial (fun L W hL hW => by go_simp; rfl) ?_
          refine g_take (i := 1) rfl rfl (by kernel_rfl) (by kernel_rfl) (by kernel_rfl) (by kernel_rfl) (by kernel_rfl) (fun _ _ _ h => h) trivial (fun L W hL hW => by go_simp; rfl) ?_
          refine g_take (i := 2) rfl rfl (by kernel_rfl) (by kernel_rfl) (by kernel_rfl) (by kernel_rfl) (by kernel_rfl) (fun _ _ _ h => h) trivial (fun L W hL hW => by go_simp; rfl) ?_
          refine g_take (i := 3) rfl rfl (by kernel_rfl) (by kernel_rfl) (by kernel_rfl) (by kernel_rfl) (by kernel_rfl) (fun _ _ _ h => h) trivial (fun L W hL hW => by go_simp; rfl) ?_
          refine g_take (i := 4) rfl rfl (by kernel_rfl) (by kernel_rfl) (by kernel_rfl) (by kernel_rfl) (by kernel_rfl) (fun _ _ _ h => h) trivial (fun L W hL hW => by go_simp; rfl) ?_
          refine g_take (i := 5) rfl rfl (by kernel_rfl) (by kernel_rfl) (by kernel_rfl) (by kernel_rfl) (by kernel_rfl) (fun _ _ _ h => h) trivial (fun L W hL hW => by go_simp; rfl) ?_
          refine g_take (i := 6) rfl rfl (by kernel_rfl) (by kernel_rfl) (by kernel_rfl) (by kernel_rfl) (by kernel_rfl) (fun _ _ _ h => h) trivial (fun L W hL hW => by go_simp; rfl) ?_
          refine g_take (i := 7) rfl rfl (by kernel_rfl) (by kernel_rfl) (by kernel_rfl) (by kernel_rfl) (by kernel_rfl) (fun _ _ _ h => h) trivial (fun L W hL hW => by go_simp; rfl) ?_
          refine g_take (i := 10) rfl rfl (by kernel_rfl) (by kernel_rfl) (by kernel_rfl) (by kernel_rfl) (by kernel_rfl) (fun _ _ _ h => h) trivial (fun L W hL hW => by go_simp; rfl) ?_
          refine g_one (i := 8) rfl rfl (by kernel_rfl) fun K hK => ?_
          go_simp
          refine Calls.mono HC.out ?_
          rintro e w6 ⟨u, rfl, hown, hb6⟩
          rw [List.nil_append] at hown
          generalize (List.drop m (List.take m l)).length = n6 at hown
          obtain ⟨A6, c6, hu⟩ := own_form hown
          subst hu
          have HREF := Lib.hid (HS6.out.own hb6 hown)
          have HREFA := Lib.hid (HRA.out.below hb6)
          have HS7 := Lib.hid (HS6.out.below hb6)
          clear hown hb6 HS6 HRA
          refine hK _ _ trivial ?_
          clear hK K
          refine g_one (i := 9) rfl rfl (by kernel_rfl) fun K hK => ?_
          go_simp
          refine hK _ _ trivial ?_
          clear hK K
          refine g_take (i := 11) rfl rfl (by kernel_rfl) (by kernel_rfl) (by kernel_rfl) (by kernel_rfl) (by kernel_rfl) (fun _ _ _ h => h) trivial (fun L W hL hW => by go_simp; rfl) ?_
          refine g_one (i := 12) rfl rfl (by kernel_rfl) fun K hK => ?_
          have qa := HS7.out.box.at_ 1 xa
          have qb := HS7.out.box.at_ 2 xb
          have qf := HS7.out.box.frozen 1
          have qg := HS7.out.box.frozen 2
          go_simp
          refine hK _ _ trivial ?_
          clear hK K qa qb qf qg
          refine wpAnyG_done (by kernel_rfl) ?_ _
          go_simp
          have HX8 : Hid ((X.setIfInBounds 1 (.slice (some ⟨g, 0, none⟩) m m)).setIfInBounds 2 (.slice A6 n6 c6) = rcells (truncD 0 m (killed s)) (upd (upd v 1 ((some ⟨g, 0, none⟩), m, m)) 2 (A6, n6, c6)) cl2 k) := Lib.hid (by rw [HX4.out]; rfl)
          have HS8 := Lib.hid (((HS7.out.re (HTR.out w6 _ _ HS7.out.rv HREFA.out HREF.out)).cell 1 (.slice (some ⟨g, 0, none⟩) m m)).cell 2 (.slice A6 n6 c6))
          clear HS7 HREF HREFA HTR HC
          generalize (X.setIfInBounds 1 (.slice (some ⟨g, 0, none⟩) m m)).setIfInBounds 2 (.slice A6 n6 c6) = X8 at *
          generalize (w6.setCell ⟨w.heap.size, 1, none⟩ (.slice (some ⟨g, 0, none⟩) m m)).setCell ⟨w.heap.size, 2, none⟩ (.slice A6 n6 c6) = w8 at *
          have HO := Lib.hid (HS8.out.out HX8.out 0)
          rw [← HR.out] at HO
          go_wp2_with (first | (refine wpList_load_row rfl 53 (.tmp 3) rfl w.heap.size rfl 53 X8 _ _ HS8.out.box.out Try.underlying53 rfl (by rw [rx_size HX8.out]; kernel_rfl) ?_) | (refine wpList_put_row rfl rfl 53 (.tmp 6) _ rfl (w.heap.size + 1) rfl 53 _ X8 rfl HS8.out.res (by rw [rx_size HX8.out]; kernel_rfl) (by rw [rx_size HX8.out]; rfl) (rx_one HX8.out) ?_))
          refine bodyPost_ret (results_cell_row2 rfl _ _ (w.heap.size + 1) 53 X8 (0, 0) _ rfl (HS8.out.res.row X8).out Try.underlying53 rfl (by rw [rx_size HX8.out]; kernel_rfl)) rfl ?_
          exact HO.out
        · have HC := Lib.hid (join_any (w := w5.drew) (B := w5.heap.size) (Nat.le_refl _) none (some ⟨g, m, none⟩) 0 (c5 - m) [] ((l.take m).drop m) 0 0 rfl (by simp <;> omega) (by omega) (by omega) Row.nil (by have hp := Bytes.part hbts m m; rw [Nat.zero_add] at hp; exact hp))
          refine wp_region_heldG [] (fun _ _ => True) (by kernel_rfl) ?_
          change wpAnyG _ _ _ _ _ _ 13 _ _ (World.drew _)
          -- take0 take1 take2 take3 take4 take5 take6 take7 take10 one8 one9 take11 one12 done
          refine g_take (i := 0) rfl rfl (by kernel_rfl) (by kernel_rfl) (by kernel_rfl) (by kernel_rfl) (by kernel_rfl) (fun _ _ _ h => h) trivial (fun L W hL hW => by go_simp; rfl) ?_
          refine g_take (i := 1) rfl rfl (by kernel_rfl) (by kernel_rfl) (by kernel_rfl) (by kernel_rfl) (by kernel_rfl) (fun _ _ _ h => h) trivial (fun L W hL hW => by go_simp; rfl) ?_
          refine g_take (i := 2) rfl rfl (by kernel_rfl) (by kernel_rfl) (by kernel_rfl) (by kernel_rfl) (by kernel_rfl) (fun _ _ _ h => h) trivial (fun L W hL hW => by go_simp; rfl) ?_
          refine g_take (i := 3) rfl rfl (by kernel_rfl) (by kernel_rfl) (by kernel_rfl) (by kernel_rfl) (by kernel_rfl) (fun _ _ _ h => h) trivial (fun L W hL hW => by go_simp; rfl) ?_
          refine g_take (i := 4) rfl rfl (by kernel_rfl) (by kernel_rfl) (by kernel_rfl) (by kernel_rfl) (by kernel_rfl) (fun _ _ _ h => h) trivial (fun L W hL hW => by go_simp; rfl) ?_
          refine g_take (i := 5) rfl rfl (by kernel_rfl) (by kernel_rfl) (by kernel_rfl) (by kernel_rfl) (by kernel_rfl) (fun _ _ _ h => h) trivial (fun L W hL hW => by go_simp; rfl) ?_
          refine g_take (i := 6) rfl rfl (by kernel_rfl) (by kernel_rfl) (by kernel_rfl) (by kernel_rfl) (by kernel_rfl) (fun _ _ _ h => h) trivial (fun L W hL hW => by go_simp; rfl) ?_
          refine g_take (i := 7) rfl rfl (by kernel_rfl) (by kernel_rfl) (by kernel_rfl) (by kernel_rfl) (by kernel_rfl) (fun _ _ _ h => h) trivial (fun L W hL hW => by go_simp; rfl) ?_
          refine g_take (i := 10) rfl rfl (by kernel_rfl) (by kernel_rfl) (by kernel_rfl) (by kernel_rfl) (by kernel_rfl) (fun _ _ _ h => h) trivial (fun L W hL hW => by go_simp; rfl) ?_
          refine g_one (i := 8) rfl rfl (by kernel_rfl) fun K hK => ?_
          go_simp
          refine Calls.mono HC.out ?_
          rintro e w6 ⟨u, rfl, hown, hb6⟩
          rw [List.nil_append] at hown
          generalize (List.drop m (List.take m l)).length = n6 at hown
          obtain ⟨A6, c6, hu⟩ := own_form hown
          subst hu
          have HREF := Lib.hid (HS6.out.own hb6 hown)
          have HREFA := Lib.hid (HRA.out.below hb6)
          have HS7 := Lib.hid (HS6.out.below hb6)
          clear hown hb6 HS6 HRA
          refine hK _ _ trivial ?_
          clear hK K
          refine g_one (i := 9) rfl rfl (by kernel_rfl) fun K hK => ?_
          go_simp
          refine hK _ _ trivial ?_
          clear hK K
          refine g_take (i := 11) rfl rfl (by kernel_rfl) (by kernel_rfl) (by kernel_rfl) (by kernel_rfl) (by kernel_rfl) (fun _ _ _ h => h) trivial (fun L W hL hW => by go_simp; rfl) ?_
          refine g_one (i := 12) rfl rfl (by kernel_rfl) fun K hK => ?_
          have qa := HS7.out.box.at_ 1 xa
          have qb := HS7.out.box.at_ 2 xb
          have qf := HS7.out.box.frozen 1
          have qg := HS7.out.box.frozen 2
          go_simp
          refine hK _ _ trivial ?_
          clear hK K qa qb qf qg
          refine wpAnyG_done (by kernel_rfl) ?_ _
          go_simp
          have HX8 : Hid ((X.setIfInBounds 1 (.slice (some ⟨g, 0, none⟩) m m)).setIfInBounds 2 (.slice A6 n6 c6) = rcells (truncD 0 m (killed s)) (upd (upd v 1 ((some ⟨g, 0, none⟩), m, m)) 2 (A6, n6, c6)) cl2 k) := Lib.hid (by rw [HX4.out]; rfl)
          have HS8 := Lib.hid (((HS7.out.re (HTR.out w6 _ _ HS7.out.rv HREFA.out HREF.out)).cell 1 (.slice (some ⟨g, 0, none⟩) m m)).cell 2 (.slice A6 n6 c6))
          clear HS7 HREF HREFA HTR HC
          generalize (X.setIfInBounds 1 (.slice (some ⟨g, 0, none⟩) m m)).setIfInBounds 2 (.slice A6 n6 c6) = X8 at *
          generalize (w6.setCell ⟨w.heap.size, 1, none⟩ (.slice (some ⟨g, 0, none⟩) m m)).setCell ⟨w.heap.size, 2, none⟩ (.slice A6 n6 c6) = w8 at *
          have HO := Lib.hid (HS8.out.out HX8.out 0)
          rw [← HR.out] at HO
          go_wp2_with (first | (refine wpList_load_row rfl 53 (.tmp 3) rfl w.heap.size rfl 53 X8 _ _ HS8.out.box.out Try.underlying53 rfl (by rw [rx_size HX8.out]; kernel_rfl) ?_) | (refine wpList_put_row rfl rfl 53 (.tmp 6) _ rfl (w.heap.size + 1) rfl 53 _ X8 rfl HS8.out.res (by rw [rx_size HX8.out]; kernel_rfl) (by rw [rx_size HX8.out]; rfl) (rx_one HX8.out) ?_))
          refine bodyPost_ret (results_cell_row2 rfl _ _ (w.heap.size + 1) 53 X8 (0, 0) _ rfl (HS8.out.res.row X8).out Try.underlying53 rfl (by rw [rx_size HX8.out]; kernel_rfl)) rfl ?_
          exact HO.out
    · have u2 : ¬ (m : Int) < (sf0 : Int) := by omega
      obtain rfl : sf = sf0 := by omega
      clear hsfm hlt
      go_upto_region 12 with fail
      clear u2
      rcases hblk with ⟨rfl, rfl, rfl, rfl⟩ | ⟨g, rfl, hg, hbts⟩
      · obtain rfl : m = 0 := by omega
        obtain rfl : sf = 0 := by omega
        have HRA : Hid (Ref w5.drew (Two F w.heap.size) (none, 0, 0) ((List.take 0 ([] : List UInt8)).take 0)) := Lib.hid (Ref.nil _ _)
        have HC := Lib.hid (join_any (w := w5.drew) (B := w5.heap.size) (Nat.le_refl _) none none 0 0 [] (List.drop 0 (List.take 0 ([] : List UInt8))) 0 0 rfl rfl (by omega) (by omega) Row.nil Row.nil)
        refine wp_region_heldG [] (fun _ _ => True) (by kernel_rfl) ?_
        change wpAnyG _ _ _ _ _ _ 13 _ _ (World.drew _)
        -- take0 take1 take2 take3 take4 take5 take6 take7 take10 one8 one9 take11 one12 done
        refine g_take (i := 0) rfl rfl (by kernel_rfl) (by kernel_rfl) (by kernel_rfl) (by kernel_rfl) (by kernel_rfl) (fun _ _ _ h => h) trivial (fun L W hL hW => by go_simp; rfl) ?_
        refine g_take (i := 1) rfl rfl (by kernel_rfl) (by kernel_rfl) (by kernel_rfl) (by kernel_rfl) (by kernel_rfl) (fun _ _ _ h => h) trivial (fun L W hL hW => by go_simp; rfl) ?_
        refine g_take (i := 2) rfl rfl (by kernel_rfl) (by kernel_rfl) (by kernel_rfl) (by kernel_rfl) (by kernel_rfl) (fun _ _ _ h => h) trivial (fun L W hL hW => by go_simp; rfl) ?_
        refine g_take (i := 3) rfl rfl (by kernel_rfl) (by kernel_rfl) (by kernel_rfl) (by kernel_rfl) (by kernel_rfl) (fun _ _ _ h => h) trivial (fun L W hL hW => by go_simp; rfl) ?_
        refine g_take (i := 4) rfl rfl (by kernel_rfl) (by kernel_rfl) (by kernel_rfl) (by kernel_rfl) (by kernel_rfl) (fun _ _ _ h => h) trivial (fun L W hL hW => by go_simp; rfl) ?_
        refine g_take (i := 5) rfl rfl (by kernel_rfl) (by kernel_rfl) (by kernel_rfl) (by kernel_rfl) (by kernel_rfl) (fun _ _ _ h => h) trivial (fun L W hL hW => by go_simp; rfl) ?_
        refine g_take (i := 6) rfl rfl (by kernel_rfl) (by kernel_rfl) (by kernel_rfl) (by kernel_rfl) (by kernel_rfl) (fun _ _ _ h => h) trivial (fun L W hL hW => by go_simp; rfl) ?_
        refine g_take (i := 7) rfl rfl (by kernel_rfl) (by kernel_rfl) (by kernel_rfl) (by kernel_rfl) (by kernel_rfl) (fun _ _ _ h => h) trivial (fun L W hL hW => by go_simp; rfl) ?_
        refine g_take (i := 10) rfl rfl (by kernel_rfl) (by kernel_rfl) (by kernel_rfl) (by kernel_rfl) (by kernel_rfl) (fun _ _ _ h => h) trivial (fun L W hL hW => by go_simp; rfl) ?_
        refine g_one (i := 8) rfl rfl (by kernel_rfl) fun K hK => ?_
        go_simp
        refine Calls.mono HC.out ?_
        rintro e w6 ⟨u, rfl, hown, hb6⟩
        rw [List.nil_append] at hown
        generalize (List.drop 0 (List.take 0 [])).length = n6 at hown
        obtain ⟨A6, c6, hu⟩ := own_form hown
        subst hu
        have HREF := Lib.hid (HS6.out.own hb6 hown)
        have HREFA := Lib.hid (HRA.out.below hb6)
        have HS7 := Lib.hid (HS6.out.below hb6)
        clear hown hb6 HS6 HRA
        refine hK _ _ trivial ?_
        clear hK K
        refine g_one (i := 9) rfl rfl (by kernel_rfl) fun K hK => ?_
        go_simp
        refine hK _ _ trivial ?_
        clear hK K
        refine g_take (i := 11) rfl rfl (by kernel_rfl) (by kernel_rfl) (by kernel_rfl) (by kernel_rfl) (by kernel_rfl) (fun _ _ _ h => h) trivial (fun L W hL hW => by go_simp; rfl) ?_
        refine g_one (i := 12) rfl rfl (by kernel_rfl) fun K hK => ?_
        have qa := HS7.out.box.at_ 1 xa
        have qb := HS7.out.box.at_ 2 xb
        have qf := HS7.out.box.frozen 1
        have qg := HS7.out.box.frozen 2
        go_simp
        refine hK _ _ trivial ?_
        clear hK K qa qb qf qg
        refine wpAnyG_done (by kernel_rfl) ?_ _
        go_simp
        have HX8 : Hid ((X.setIfInBounds 1 (.slice none 0 0)).setIfInBounds 2 (.slice A6 n6 c6) = rcells (truncD 0 0 (killed s)) (upd (upd v 1 (none, 0, 0)) 2 (A6, n6, c6)) cl2 k) := Lib.hid (by rw [HX4.out]; rfl)
        have HS8 := Lib.hid (((HS7.out.re (HTR.out w6 _ _ HS7.out.rv HREFA.out HREF.out)).cell 1 (.slice none 0 0)).cell 2 (.slice A6 n6 c6))
        clear HS7 HREF HREFA HTR HC
        generalize (X.setIfInBounds 1 (.slice none 0 0)).setIfInBounds 2 (.slice A6 n6 c6) = X8 at *
        generalize (w6.setCell ⟨w.heap.size, 1, none⟩ (.slice none 0 0)).setCell ⟨w.heap.size, 2, none⟩ (.slice A6 n6 c6) = w8 at *
        have HO := Lib.hid (HS8.out.out HX8.out 0)
        rw [← HR.out] at HO
        go_wp2_with (first | (refine wpList_load_row rfl 53 (.tmp 3) rfl w.heap.size rfl 53 X8 _ _ HS8.out.box.out Try.underlying53 rfl (by rw [rx_size HX8.out]; kernel_rfl) ?_) | (refine wpList_put_row rfl rfl 53 (.tmp 6) _ rfl (w.heap.size + 1) rfl 53 _ X8 rfl HS8.out.res (by rw [rx_size HX8.out]; kernel_rfl) (by rw [rx_size HX8.out]; rfl) (rx_one HX8.out) ?_))
        refine bodyPost_ret (results_cell_row2 rfl _ _ (w.heap.size + 1) 53 X8 (0, 0) _ rfl (HS8.out.res.row X8).out Try.underlying53 rfl (by rw [rx_size HX8.out]; kernel_rfl)) rfl ?_
        exact HO.out
      · have HRA : Hid (Ref w5.drew (Two F w.heap.size) (some ⟨g, 0, none⟩, sf, sf) ((l.take m).take sf)) := Lib.hid ⟨by simp; omega, Nat.le_refl _, by show sf ≤ maxLen; unfold maxLen; omega, (hbts.head m).head sf, fun _ b o e => by cases e; intro hf; have := HS4.out.lt _ hf; omega⟩
        by_cases hcap : c5 = sf
        · have HC := Lib.hid (join_any (w := w5.drew) (B := w5.heap.size) (Nat.le_refl _) none (some ⟨g, 0, none⟩) 0 0 [] ((l.take m).drop sf) 0 (m - sf) rfl (by simp <;> omega) (by omega) (by omega) Row.nil (by rw [List.drop_of_length_le (by simp; omega)]; exact Row.nil))
          refine wp_region_heldG [] (fun _ _ => True) (by kernel_rfl) ?_
          change wpAnyG _ _ _ _ _ _ 13 _ _ (World.drew _)
          -- take0 take1 take2 take3 take4 take5 take6 take7 take10 one8 one9 take11 one12 done
          refine g_take (i := 0) rfl rfl (by kernel_rfl) (by kernel_rfl) (by kernel_rfl) (by kernel_rfl) (by kernel_rfl) (fun _ _ _ h => h) trivial (fun L W hL hW => by go_simp; rfl) ?_
          refine g_take (i := 1) rfl rfl (by kernel_rfl) (by kernel_rfl) (by kernel_rfl) (by kernel_rfl) (by kernel_rfl) (fun _ _ _ h => h) trivial (fun L W hL hW => by go_simp; rfl) ?_
          refine g_take (i := 2) rfl rfl (by kernel_rfl) (by kernel_rfl) (by kernel_rfl) (by kernel_rfl) (by kernel_rfl) (fun _ _ _ h => h) trivial (fun L W hL hW => by go_simp; rfl) ?_
          refine g_take (i := 3) rfl rfl (by kernel_rfl) (by kernel_rfl) (by kernel_rfl) (by kernel_rfl) (by kernel_rfl) (fun _ _ _ h => h) trivial (fun L W hL hW => by go_simp; rfl) ?_
          refine g_take (i := 4) rfl rfl (by kernel_rfl) (by kernel_rfl) (by kernel_rfl) (by kernel_rfl) (by kernel_rfl) (fun _ _ _ h => h) trivial (fun L W hL hW => by go_simp; rfl) ?_
          refine g_take (i := 5) rfl rfl (by kernel_rfl) (by kernel_rfl) (by kernel_rfl) (by kernel_rfl) (by kernel_rfl) (fun _ _ _ h => h) trivial (fun L W hL hW => by go_simp; rfl) ?_
          refine g_take (i := 6) rfl rfl (by kernel_rfl) (by kernel_rfl) (by kernel_rfl) (by kernel_rfl) (by kernel_rfl) (fun _ _ _ h => h) trivial (fun L W hL hW => by go_simp; rfl) ?_
          refine g_take (i := 7) rfl rfl (by kernel_rfl) (by kernel_rfl) (by kernel_rfl) (by kernel_rfl) (by kernel_rfl) (fun _ _ _ h => h) trivial (fun L W hL hW => by go_simp; rfl) ?_
          refine g_take (i := 10) rfl rfl (by kernel_rfl) (by kernel_rfl) (by kernel_rfl) (by kernel_rfl) (by kernel_rfl) (fun _ _ _ h => h) trivial (fun L W hL hW => by go_simp; rfl) ?_
          refine g_one (i := 8) rfl rfl (by kernel_rfl) fun K hK => ?_
          go_simp
          refine Calls.mono HC.out ?_
          rintro e w6 ⟨u, rfl, hown, hb6⟩
          rw [List.nil_append] at hown
          generalize (List.drop sf (List.take m l)).length = n6 at hown
          obtain ⟨A6, c6, hu⟩ := own_form hown
          subst hu
          have HREF := Lib.hid (HS6.out.own hb6 hown)
          have HREFA := Lib.hid (HRA.out.below hb6)
          have HS7 := Lib.hid (HS6.out.below hb6)
          clear hown hb6 HS6 HRA
          refine hK _ _ trivial ?_
          clear hK K
          refine g_one (i := 9) rfl rfl (by kernel_rfl) fun K hK => ?_
          go_simp
          refine hK _ _ trivial ?_
          clear hK K
          refine g_take (i := 11) rfl rfl (by kernel_rfl) (by kernel_rfl) (by kernel_rfl) (by kernel_rfl) (by kernel_rfl) (fun _ _ _ h => h) trivial (fun L W hL hW => by go_simp; rfl) ?_
          refine g_one (i := 12) rfl rfl (by kernel_rfl) fun K hK => ?_
          have qa := HS7.out.box.at_ 1 xa
          have qb := HS7.out.box.at_ 2 xb
          have qf := HS7.out.box.frozen 1
          have qg := HS7.out.box.frozen 2
          go_simp
          refine hK _ _ trivial ?_
          clear hK K qa qb qf qg
          refine wpAnyG_done (by kernel_rfl) ?_ _
          go_simp
          have HX8 : Hid ((X.setIfInBounds 1 (.slice (some ⟨g, 0, none⟩) sf sf)).setIfInBounds 2 (.slice A6 n6 c6) = rcells (truncD 0 m (killed s)) (upd (upd v 1 ((some ⟨g, 0, none⟩), sf, sf)) 2 (A6, n6, c6)) cl2 k) := Lib.hid (by rw [HX4.out]; rfl)
          have HS8 := Lib.hid (((HS7.out.re (HTR.out w6 _ _ HS7.out.rv HREFA.out HREF.out)).cell 1 (.slice (some ⟨g, 0, none⟩) sf sf)).cell 2 (.slice A6 n6 c6))
          clear HS7 HREF HREFA HTR HC
          generalize (X.setIfInBounds 1 (.slice (some ⟨g, 0, none⟩) sf sf)).setIfInBounds 2 (.slice A6 n6 c6) = X8 at *
          generalize (w6.setCell ⟨w.heap.size, 1, none⟩ (.slice (some ⟨g, 0, none⟩) sf sf)).setCell ⟨w.heap.size, 2, none⟩ (.slice A6 n6 c6) = w8 at *
          have HO := Lib.hid (HS8.out.out HX8.out 0)
          rw [← HR.out] at HO
          go_wp2_with (first | (refine wpList_load_row rfl 53 (.tmp 3) rfl w.heap.size rfl 53 X8 _ _ HS8.out.box.out Try.underlying53 rfl (by rw [rx_size HX8.out]; kernel_rfl) ?_) | (refine wpList_put_row rfl rfl 53 (.tmp 6) _ rfl (w.heap.size + 1) rfl 53 _ X8 rfl HS8.out.res (by rw [rx_size HX8.out]; kernel_rfl) (by rw [rx_size HX8.out]; rfl) (rx_one HX8.out) ?_))
          refine bodyPost_ret (results_cell_row2 rfl _ _ (w.heap.size + 1) 53 X8 (0, 0) _ rfl (HS8.out.res.row X8).out Try.underlying53 rfl (by rw [rx_size HX8.out]; kernel_rfl)) rfl ?_
          exact HO.out
        · have HC := Lib.hid (join_any (w := w5.drew) (B := w5.heap.size) (Nat.le_refl _) none (some ⟨g, sf, none⟩) 0 (c5 - sf) [] ((l.take m).drop sf) 0 (m - sf) rfl (by simp <;> omega) (by omega) (by omega) Row.nil (by have hp := Bytes.part hbts sf m; rw [Nat.zero_add] at hp; exact hp))
          refine wp_region_heldG [] (fun _ _ => True) (by kernel_rfl) ?_
          change wpAnyG _ _ _ _ _ _ 13 _ _ (World.drew _)
          -- take0 take1 take2 take3 take4 take5 take6 take7 take10 one8 one9 take11 one12 done
          refine g_take (i := 0) rfl rfl (by kernel_rfl) (by kernel_rfl) (by kernel_rfl) (by kernel_rfl) (by kernel_rfl) (fun _ _ _ h => h) trivial (fun L W hL hW => by go_simp; rfl) ?_
          refine g_take (i := 1) rfl rfl (by kernel_rfl) (by kernel_rfl) (by kernel_rfl) (by kernel_rfl) (by kernel_rfl) (fun _ _ _ h => h) trivial (fun L W hL hW => by go_simp; rfl) ?_
          refine g_take (i := 2) rfl rfl (by kernel_rfl) (by kernel_rfl) (by kernel_rfl) (by kernel_rfl) (by kernel_rfl) (fun _ _ _ h => h) trivial (fun L W hL hW => by go_simp; rfl) ?_
          refine g_take (i := 3) rfl rfl (by kernel_rfl) (by kernel_rfl) (by kernel_rfl) (by kernel_rfl) (by kernel_rfl) (fun _ _ _ h => h) trivial (fun L W hL hW => by go_simp; rfl) ?_
          refine g_take (i := 4) rfl rfl (by kernel_rfl) (by kernel_rfl) (by kernel_rfl) (by kernel_rfl) (by kernel_rfl) (fun _ _ _ h => h) trivial (fun L W hL hW => by go_simp; rfl) ?_
          refine g_take (i := 5) rfl rfl (by kernel_rfl) (by kernel_rfl) (by kernel_rfl) (by kernel_rfl) (by kernel_rfl) (fun _ _ _ h => h) trivial (fun L W hL hW => by go_simp; rfl) ?_
          refine g_take (i := 6) rfl rfl (by kernel_rfl) (by kernel_rfl) (by kernel_rfl) (by kernel_rfl) (by kernel_rfl) (fun _ _ _ h => h) trivial (fun L W hL hW => by go_simp; rfl) ?_
          refine g_take (i := 7) rfl rfl (by kernel_rfl) (by kernel_rfl) (by kernel_rfl) (by kernel_rfl) (by kernel_rfl) (fun _ _ _ h => h) trivial (fun L W hL hW => by go_simp; rfl) ?_
          refine g_take (i := 10) rfl rfl (by kernel_rfl) (by kernel_rfl) (by kernel_rfl) (by kernel_rfl) (by kernel_rfl) (fun _ _ _ h => h) trivial (fun L W hL hW => by go_simp; rfl) ?_
          refine g_one (i := 8) rfl rfl (by kernel_rfl) fun K hK => ?_
          go_simp
          refine Calls.mono HC.out ?_
          rintro e w6 ⟨u, rfl, hown, hb6⟩
          rw [List.nil_append] at hown
          generalize (List.drop sf (List.take m l)).length = n6 at hown
          obtain ⟨A6, c6, hu⟩ := own_form hown
          subst hu
          have HREF := Lib.hid (HS6.out.own hb6 hown)
          have HREFA := Lib.hid (HRA.out.below hb6)
          have HS7 := Lib.hid (HS6.out.below hb6)
          clear hown hb6 HS6 HRA
          refine hK _ _ trivial ?_
          clear hK K
          refine g_one (i := 9) rfl rfl (by kernel_rfl) fun K hK => ?_
          go_simp
          refine hK _ _ trivial ?_
          clear hK K
          refine g_take (i := 11) rfl rfl (by kernel_rfl) (by kernel_rfl) (by kernel_rfl) (by kernel_rfl) (by kernel_rfl) (fun _ _ _ h => h) trivial (fun L W hL hW => by go_simp; rfl) ?_
          refine g_one (i := 12) rfl rfl (by kernel_rfl) fun K hK => ?_
          have qa := HS7.out.box.at_ 1 xa
          have qb := HS7.out.box.at_ 2 xb
          have qf := HS7.out.box.frozen 1
          have qg := HS7.out.box.frozen 2
          go_simp
          refine hK _ _ trivial ?_
          clear hK K qa qb qf qg
          refine wpAnyG_done (by kernel_rfl) ?_ _
          go_simp
          have HX8 : Hid ((X.setIfInBounds 1 (.slice (some ⟨g, 0, none⟩) sf sf)).setIfInBounds 2 (.slice A6 n6 c6) = rcells (truncD 0 m (killed s)) (upd (upd v 1 ((some ⟨g, 0, none⟩), sf, sf)) 2 (A6, n6, c6)) cl2 k) := Lib.hid (by rw [HX4.out]; rfl)
          have HS8 := Lib.hid (((HS7.out.re (HTR.out w6 _ _ HS7.out.rv HREFA.out HREF.out)).cell 1 (.slice (some ⟨g, 0, none⟩) sf sf)).cell 2 (.slice A6 n6 c6))
          clear HS7 HREF HREFA HTR HC
          generalize (X.setIfInBounds 1 (.slice (some ⟨g, 0, none⟩) sf sf)).setIfInBounds 2 (.slice A6 n6 c6) = X8 at *
          generalize (w6.setCell ⟨w.heap.size, 1, none⟩ (.slice (some ⟨g, 0, none⟩) sf sf)).setCell ⟨w.heap.size, 2, none⟩ (.slice A6 n6 c6) = w8 at *
          have HO := Lib.hid (HS8.out.out HX8.out 0)
          rw [← HR.out] at HO
          go_wp2_with (first | (refine wpList_load_row rfl 53 (.tmp 3) rfl w.heap.size rfl 53 X8 _ _ HS8.out.box.out Try.underlying53 rfl (by rw [rx_size HX8.out]; kernel_rfl) ?_) | (refine wpList_put_row rfl rfl 53 (.tmp 6) _ rfl (w.heap.size + 1) rfl 53 _ X8 rfl HS8.out.res (by rw [rx_size HX8.out]; kernel_rfl) (by rw [rx_size HX8.out]; rfl) (rx_one HX8.out) ?_))
          refine bodyPost_ret (results_cell_row2 rfl _ _ (w.heap.size + 1) 53 X8 (0, 0) _ rfl (HS8.out.res.row X8).out Try.underlying53 rfl (by rw [rx_size HX8.out]; kernel_rfl)) rfl ?_
          exact HO.out
  · have HC := Lib.hid (all1 HOK.out HS.out.rv)
    unfold rval at HC
    rw [← HX.out] at HC
    obtain ⟨m, rfl⟩ : ∃ m : Nat, n = m := ⟨n.toNat, by omega⟩
    have hlen : (s.all 1).length ≤ 1048576 := by have := HOK.out.room; have := HOK.out.cap; omega
    go_wp2_with (refine wpList_load_row_g (by simp only [Region.wanted, yielded]; go_simp) 53 (.tmp 3) rfl w.heap.size rfl 53 X _ _ HS.out.box.out Try.underlying53 rfl (by rw [rx_size HX.out]; kernel_rfl) ?_)
    refine Calls.mono HC.out ?_
    rintro e w1 ⟨u, rfl, hown, hb1⟩
    obtain ⟨A1, c1, hu⟩ := own_form hown
    subst hu
    have HS1 := Lib.hid (HS.out.below hb1)
    clear HS HC hown hb1 q12
    have HS := HS1
    clear HS1
    generalize hnl : (s.all 1).length = nl at *
    have HNL := Lib.hid hnl
    clear hnl
    by_cases hbig : nl < m
    · have u1 : (nl : Int) < (m : Int) := by omega
      have HR : Hid (trD s 1 (m : Int) = (2, s)) := Lib.hid (HWD.out (.inr (.inr (by show (((s.all 1).length : Nat) : Int) < _; rw [HNL.out]; exact u1))))
      have HO := Lib.hid (HS.out.out HX.out 2)
      rw [← HR.out] at HO
      go_wp2_with (first | (refine wpList_load_row rfl 53 (.tmp 3) rfl w.heap.size rfl 53 X _ _ HS.out.box.out Try.underlying53 rfl (by rw [rx_size HX.out]; kernel_rfl) ?_) | (refine wpList_put_row rfl rfl 53 (.tmp 6) _ rfl (w.heap.size + 1) rfl 53 _ X rfl HS.out.res (by rw [rx_size HX.out]; kernel_rfl) (by rw [rx_size HX.out]; rfl) (rx_one HX.out) ?_))
      refine bodyPost_ret (results_cell_row2 rfl _ _ (w.heap.size + 1) 53 X (0, 0) _ rfl (HS.out.res.row X).out Try.underlying53 rfl (by rw [rx_size HX.out]; kernel_rfl)) rfl ?_
      exact HO.out
    have u1 : ¬ (nl : Int) < (m : Int) := by omega
    have HR : Hid (trD s 1 (m : Int) = if kb s then (3, killed s) else (0, truncD 1 m (killed s))) := Lib.hid (by
      unfold Dk.trD
      rw [if_neg (by rw [HD.out]; simp), if_neg, after_r (s := s) (f := truncD (Int.toNat 1) (Int.toNat (m : Int))) (fl := fun _ s => s) (fun _ => rfl) (fun _ => rfl), Int.toNat_natCast]
      · rfl
      · rintro (h1 | h1 | h1)
        · exact absurd h1 (by decide)
        · omega
        · exact u1 (by rw [← HNL.out]; exact h1))
    clear HWD
    have HK := Lib.hid (rkills (w := w1) (v := v) HOK.out HQ.out)
    unfold rval at HK
    rw [← HX.out] at HK
    go_wp2_with (refine wpList_load_row rfl 53 (.tmp 3) rfl w.heap.size rfl 53 X _ _ HS.out.box.out Try.underlying53 rfl (by rw [rx_size HX.out]; kernel_rfl) ?_)
    refine Calls.mono HK.out ?_
    rintro e w2 ⟨⟨cl2, rfl, hfu2⟩, hb2⟩
    have HS1 := Lib.hid (HS.out.below hb2)
    clear HS HK hb2
    have HS := HS1
    clear HS1
    obtain ⟨X2, hX2⟩ : ∃ X2, X2 = rcells (killed s) v cl2 k := ⟨_, rfl⟩
    unfold rval
    rw [← hX2]
    have HX2 := Lib.hid hX2
    clear hX2
    cases hkb : kb s
    rotate_left
    · rw [hkb, if_pos rfl] at HR
      clear hkb
      go_upto_region 6 with (refine wpList_put_row rfl rfl 53 (.tmp 3) _ rfl w.heap.size rfl 53 X X2 rfl HS.out.box (by rw [rx_size HX2.out]; kernel_rfl) (by rw [rx_size HX.out, rx_size HX2.out]) (rx_one HX2.out) ?_)
      have HS4 := Lib.hid ((HS.out.put X2).kills hfu2)
      have HX4 := HX2
      clear HS HX HX2 hfu2
      generalize w2.setRow w.heap.size X2 = w3 at *
      generalize X2 = X at *
      have HO := Lib.hid (HS4.out.out HX4.out 3)
      rw [← HR.out] at HO
      go_wp2_with (first | (refine wpList_load_row rfl 53 (.tmp 3) rfl w.heap.size rfl 53 X _ _ HS4.out.box.out Try.underlying53 rfl (by rw [rx_size HX4.out]; kernel_rfl) ?_) | (refine wpList_put_row rfl rfl 53 (.tmp 6) _ rfl (w.heap.size + 1) rfl 53 _ X rfl HS4.out.res (by rw [rx_size HX4.out]; kernel_rfl) (by rw [rx_size HX4.out]; rfl) (rx_one HX4.out) ?_))
      refine bodyPost_ret (results_cell_row2 rfl _ _ (w.heap.size + 1) 53 X (0, 0) _ rfl (HS4.out.res.row X).out Try.underlying53 rfl (by rw [rx_size HX4.out]; kernel_rfl)) rfl ?_
      exact HO.out
    rw [hkb, if_neg (by simp)] at HR
    clear hkb
    go_upto_region 6 with (refine wpList_put_row rfl rfl 53 (.tmp 3) _ rfl w.heap.size rfl 53 X X2 rfl HS.out.box (by rw [rx_size HX2.out]; kernel_rfl) (by rw [rx_size HX.out, rx_size HX2.out]) (rx_one HX2.out) ?_)
    have HS4 := Lib.hid ((HS.out.put X2).kills hfu2)
    have HX4 := HX2
    clear HS HX HX2 hfu2
    generalize w2.setRow w.heap.size X2 = w3 at *
    generalize X2 = X at *
    have HC := Lib.hid (all1 (killed_ok HOK.out) HS4.out.rv)
    unfold rval at HC
    rw [← HX4.out] at HC
    have hsf := HS4.out.rv.a1.len
    have hss := (killed_ok HOK.out).safe 1 (by omega)
    have hke : (killed s).all = s.all := (killed_all s).1
    have HTR := Lib.hid (fun (W : World) (x y : Sl) (hr : RV W (Two F w.heap.size) (killed s) v cl2 k) => RV.truncs1 (n := m) (x := x) (y := y) hr)
    rw [List.length_take, hke] at hsf
    rw [hke] at hss HC HTR
    rw [HNL.out] at hss hsf
    have xa : X[3]? = some (.slice (v 3).1 (v 3).2.1 (v 3).2.2) := by rw [HX4.out]; rfl
    have xb : X[4]? = some (.slice (v 4).1 (v 4).2.1 (v 4).2.2) := by rw [HX4.out]; rfl
    have q := HS4.out.box.at_ 3 xa
    obtain ⟨sf0, hsf0⟩ : ∃ sf0, sf0 = (v 3).2.1 := ⟨_, rfl⟩
    rw [← hsf0] at xa q hsf
    have hs0 : (killed s).safe 1 = sf0 := by omega
    rw [hs0] at HTR hss
    clear hsf0 hsf hs0 hke
    generalize s.all 1 = l at *
    go_wp2_with (refine wpList_load_row rfl 53 (.tmp 3) rfl w.heap.size rfl 53 X _ _ HS4.out.box.out Try.underlying53 rfl (by rw [rx_size HX4.out]; kernel_rfl) ?_)
    refine Calls.mono HC.out ?_
    rintro e w5 ⟨u, rfl, hown, hb5⟩
    rw [HNL.out] at hown
    obtain ⟨A5, c5, hu⟩ := own_form hown
    subst hu
    obtain ⟨-, hnc, hcm, hblk⟩ := own_block hown
    unfold maxLen at hcm
    have hgl : w3.heap.size ≤ w3.heap.size := Nat.le_refl _
    have HS6 := Lib.hid (HS4.out.below hb5).drew
    have hL := HNL.out
    clear hown HC q hgl
    have u5 : (m : Int) ≤ (c5 : Int) := by omega
    obtain ⟨sf, hsfm⟩ : ∃ sf, sf = min sf0 m := ⟨_, rfl⟩
    rw [← hsfm] at HTR
    have u6 : (sf : Int) ≤ (c5 : Int) := by omega
    have u7 : (sf : Int) ≤ (m : Int) := by omega
    have hsm : sf ≤ m := by omega
    by_cases hlt : m < sf0
    · have u2 : (m : Int) < (sf0 : Int) := by omega
      obtain rfl : m = sf := by omega
      clear hsfm hlt
      go_upto_region 12 with fail
      clear u2
      rcases hblk with ⟨rfl, rfl, rfl, rfl⟩ | ⟨g, rfl, hg, hbts⟩
      · obtain rfl : m = 0 := by omega
        have HRA : Hid (Ref w5.drew (Two F w.heap.size) (none, 0, 0) ((List.take 0 ([] : List UInt8)).take 0)) := Lib.hid (Ref.nil _ _)
        have HC := Lib.hid (join_any (w := w5.drew) (B := w5.heap.size) (Nat.le_refl _) none none 0 0 [] (List.drop 0 (List.take 0 ([] : List UInt8))) 0 0 rfl rfl (by omega) (by omega) Row.nil Row.nil)
        refine wp_region_heldG [] (fun _ _ => True) (by kernel_rfl) ?_
        change wpAnyG _ _ _ _ _ _ 13 _ _ (World.drew _)
        -- take0 take1 take2 take3 take4 take5 take6 take7 take10 one8 one9 take11 one12 done
        refine g_take (i := 0) rfl rfl (by kernel_rfl) (by kernel_rfl) (by kernel_rfl) (by kernel_rfl) (by kernel_rfl) (fun _ _ _ h => h) trivial (fun L W hL hW => by go_simp; rfl) ?_
        refine g_take (i := 1) rfl rfl (by kernel_rfl) (by kernel_rfl) (by kernel_rfl) (by kernel_rfl) (by kernel_rfl) (fun _ _ _ h => h) trivial (fun L W hL hW => by go_simp; rfl) ?_
        refine g_take (i := 2) rfl rfl (by kernel_rfl) (by kernel_rfl) (by kernel_rfl) (by kernel_rfl) (by kernel_rfl) (fun _ _ _ h => h) trivial (fun L W hL hW => by go_simp; rfl) ?_
        refine g_take (i := 3) rfl rfl (by kernel_rfl) (by kernel_rfl) (by kernel_rfl) (by kernel_rfl) (by kernel_rfl) (fun _ _ _ h => h) trivial (fun L W hL hW => by go_simp; rfl) ?_
        refine g_take (i := 4) rfl rfl (by kernel_rfl) (by kernel_rfl) (by kernel_rfl) (by kernel_rfl) (by kernel_rfl) (fun _ _ _ h => h) trivial (fun L W hL hW => by go_simp; rfl) ?_
        refine g_take (i := 5) rfl rfl (by kernel_rfl) (by kernel_rfl) (by kernel_rfl) (by kernel_rfl) (by kernel_rfl) (fun _ _ _ h => h) trivial (fun L W hL hW => by go_simp; rfl) ?_
        refine g_take (i := 6) rfl rfl (by kernel_rfl) (by kernel_rfl) (by kernel_rfl) (by kernel_rfl) (by kernel_rfl) (fun _ _ _ h => h) trivial (fun L W hL hW => by go_simp; rfl) ?_
        refine g_take (i := 7) rfl rfl (by kernel_rfl) (by kernel_rfl) (by kernel_rfl) (by kernel_rfl) (by kernel_rfl) (fun _ _ _ h => h) trivial (fun L W hL hW => by go_simp; rfl) ?_
        refine g_take (i := 10) rfl rfl (by kernel_rfl) (by kernel_rfl) (by kernel_rfl) (by kernel_rfl) (by kernel_rfl) (fun _ _ _ h => h) trivial (fun L W hL hW => by go_simp; rfl) ?_
        refine g_one (i := 8) rfl rfl (by kernel_rfl) fun K hK => ?_
        go_simp
        refine Calls.mono HC.out ?_
        rintro e w6 ⟨u, rfl, hown, hb6⟩
        rw [List.nil_append] at hown
        generalize (List.drop 0 (List.take 0 [])).length = n6 at hown
        obtain ⟨A6, c6, hu⟩ := own_form hown
        subst hu
        have HREF := Lib.hid (HS6.out.own hb6 hown)
        have HREFA := Lib.hid (HRA.out.below hb6)
        have HS7 := Lib.hid (HS6.out.below hb6)
        clear hown hb6 HS6 HRA
        refine hK _ _ trivial ?_
        clear hK K
        refine g_one (i := 9) rfl rfl (by kernel_rfl) fun K hK => ?_
        go_simp
        refine hK _ _ trivial ?_
        clear hK K
        refine g_take (i := 11) rfl rfl (by kernel_rfl) (by kernel_rfl) (by kernel_rfl) (by kernel_rfl) (by kernel_rfl) (fun _ _ _ h => h) trivial (fun L W hL hW => by go_simp; rfl) ?_
        refine g_one (i := 12) rfl rfl (by kernel_rfl) fun K hK => ?_
        have qa := HS7.out.box.at_ 3 xa
        have qb := HS7.out.box.at_ 4 xb
        have qf := HS7.out.box.frozen 3
        have qg := HS7.out.box.frozen 4
        go_simp
        refine hK _ _ trivial ?_
        clear hK K qa qb qf qg
        refine wpAnyG_done (by kernel_rfl) ?_ _
        go_simp
        have HX8 : Hid ((X.setIfInBounds 3 (.slice none 0 0)).setIfInBounds 4 (.slice A6 n6 c6) = rcells (truncD 1 0 (killed s)) (upd (upd v 3 (none, 0, 0)) 4 (A6, n6, c6)) cl2 k) := Lib.hid (by rw [HX4.out]; rfl)
        have HS8 := Lib.hid (((HS7.out.re (HTR.out w6 _ _ HS7.out.rv HREFA.out HREF.out)).cell 3 (.slice none 0 0)).cell 4 (.slice A6 n6 c6))
        clear HS7 HREF HREFA HTR HC
        generalize (X.setIfInBounds 3 (.slice none 0 0)).setIfInBounds 4 (.slice A6 n6 c6) = X8 at *
        generalize (w6.setCell ⟨w.heap.size, 3, none⟩ (.slice none 0 0)).setCell ⟨w.heap.size, 4, none⟩ (.slice A6 n6 c6) = w8 at *
        have HO := Lib.hid (HS8.out.out HX8.out 0)
        rw [← HR.out] at HO
        go_wp2_with (first | (refine wpList_load_row rfl 53 (.tmp 3) rfl w.heap.size rfl 53 X8 _ _ HS8.out.box.out Try.underlying53 rfl (by rw [rx_size HX8.out]; kernel_rfl) ?_) | (refine wpList_put_row rfl rfl 53 (.tmp 6) _ rfl (w.heap.size + 1) rfl 53 _ X8 rfl HS8.out.res (by rw [rx_size HX8.out]; kernel_rfl) (by rw [rx_size HX8.out]; rfl) (rx_one HX8.out) ?_))
        refine bodyPost_ret (results_cell_row2 rfl _ _ (w.heap.size + 1) 53 X8 (0, 0) _ rfl (HS8.out.res.row X8).out Try.underlying53 rfl (by rw [rx_size HX8.out]; kernel_rfl)) rfl ?_
        exact HO.out
      · have HRA : Hid (Ref w5.drew (Two F w.heap.size) (some ⟨g, 0, none⟩, m, m) ((l.take m).take m)) := Lib.hid ⟨by simp; omega, Nat.le_refl _, by show m ≤ maxLen; unfold maxLen; omega, (hbts.head m).head m, fun _ b o e => by cases e; intro hf; have := HS4.out.lt _ hf; omega⟩
        by_cases hcap : c5 = m
        · have HC := Lib.hid (join_any (w := w5.drew) (B := w5.heap.size) (Nat.le_refl _) none (some ⟨g, 0, none⟩) 0 0 [] ((l.take m).drop m) 0 0 rfl (by simp <;> omega) (by omega) (by omega) Row.nil (by rw [List.drop_of_length_le (by simp; omega)]; exact Row.nil))
          refine wp_region_heldG [] (fun _ _ => True) (by kernel_rfl) ?_
          change wpAnyG _ _ _ _ _ _ 13 _ _ (World.drew _)
          -- take0 take1 take2 take3 take4 take5 take6 take7 take10 one8 one9 take11 one12 done
          refine g_take (i := 0) rfl rfl (by kernel_rfl) (by kernel_rfl) (by kernel_rfl) (by kernel_rfl) (by kernel_rfl) (fun _ _ _ h => h) trivial (fun L W hL hW => by go_simp; rfl) ?_
          refine g_take (i := 1) rfl rfl (by kernel_rfl) (by kernel_rfl) (by kernel_rfl) (by kernel_rfl) (by kernel_rfl) (fun _ _ _ h => h) trivial (fun L W hL hW => by go_simp; rfl) ?_
          refine g_take (i := 2) rfl rfl (by kernel_rfl) (by kernel_rfl) (by kernel_rfl) (by kernel_rfl) (by kernel_rfl) (fun _ _ _ h => h) trivial (fun L W hL hW => by go_simp; rfl) ?_
          refine g_take (i := 3) rfl rfl (by kernel_rfl) (by kernel_rfl) (by kernel_rfl) (by kernel_rfl) (by kernel_rfl) (fun _ _ _ h => h) trivial (fun L W hL hW => by go_simp; rfl) ?_
          refine g_take (i := 4) rfl rfl (by kernel_rfl) (by kernel_rfl) (by kernel_rfl) (by kernel_rfl) (by kernel_rfl) (fun _ _ _ h => h) trivial (fun L W hL hW => by go_simp; rfl) ?_
          refine g_take (i := 5) rfl rfl (by kernel_rfl) (by kernel_rfl) (by kernel_rfl) (by kernel_rfl) (by kernel_rfl) (fun _ _ _ h => h) trivial (fun L W hL hW => by go_simp; rfl) ?_
          refine g_take (i := 6) rfl rfl (by kernel_rfl) (by kernel_rfl) (by kernel_rfl) (by kernel_rfl) (by kernel_rfl) (fun _ _ _ h => h) trivial (fun L W hL hW => by go_simp; rfl) ?_
          refine g_take (i := 7) rfl rfl (by kernel_rfl) (by kernel_rfl) (by kernel_rfl) (by kernel_rfl) (by kernel_rfl) (fun _ _ _ h => h) trivial (fun L W hL hW => by go_simp; rfl) ?_
          refine g_take (i := 10) rfl rfl (by kernel_rfl) (by kernel_rfl) (by kernel_rfl) (by kernel_rfl) (by kernel_rfl) (fun _ _ _ h => h) trivial (fun L W hL hW => by go_simp; rfl) ?_
          refine g_one (i := 8) rfl rfl (by kernel_rfl) fun K hK => ?_
          go_simp
          refine Calls.mono HC.out ?_
          rintro e w6 ⟨u, rfl, hown, hb6⟩
          rw [List.nil_append] at hown
          generalize (List.drop m (List.take m l)).length = n6 at hown
          obtain ⟨A6, c6, hu⟩ := own_form hown
          subst hu
          have HREF := Lib.hid (HS6.out.own hb6 hown)
          have HREFA := Lib.hid (HRA.out.below hb6)
          have HS7 := Lib.hid (HS6.out.below hb6)
          clear hown hb6 HS6 HRA
          refine hK _ _ trivial ?_
          clear hK K
          refine g_one (i := 9) rfl rfl (by kernel_rfl) fun K hK => ?_
          go_simp
          refine hK _ _ trivial ?_
          clear hK K
          refine g_take (i := 11) rfl rfl (by kernel_rfl) (by kernel_rfl) (by kernel_rfl) (by kernel_rfl) (by kernel_rfl) (fun _ _ _ h => h) trivial (fun L W hL hW => by go_simp; rfl) ?_
          refine g_one (i := 12) rfl rfl (by kernel_rfl) fun K hK => ?_
          have qa := HS7.out.box.at_ 3 xa
          have qb := HS7.out.box.at_ 4 xb
          have qf := HS7.out.box.frozen 3
          have qg := HS7.out.box.frozen 4
          go_simp
          refine hK _ _ trivial ?_
          clear hK K qa qb qf qg
          refine wpAnyG_done (by kernel_rfl) ?_ _
          go_simp
          have HX8 : Hid ((X.setIfInBounds 3 (.slice (some ⟨g, 0, none⟩) m m)).setIfInBounds 4 (.slice A6 n6 c6) = rcells (truncD 1 m (killed s)) (upd (upd v 3 ((some ⟨g, 0, none⟩), m, m)) 4 (A6, n6, c6)) cl2 k) := Lib.hid (by rw [HX4.out]; rfl)
          have HS8 := Lib.hid (((HS7.out.re (HTR.out w6 _ _ HS7.out.rv HREFA.out HREF.out)).cell 3 (.slice (some ⟨g, 0, none⟩) m m)).cell 4 (.slice A6 n6 c6))
          clear HS7 HREF HREFA HTR HC
          generalize (X.setIfInBounds 3 (.slice (some ⟨g, 0, none⟩) m m)).setIfInBounds 4 (.slice A6 n6 c6) = X8 at *
          generalize (w6.setCell ⟨w.heap.size, 3, none⟩ (.slice (some ⟨g, 0, none⟩) m m)).setCell ⟨w.heap.size, 4, none⟩ (.slice A6 n6 c6) = w8 at *
          have HO := Lib.hid (HS8.out.out HX8.out 0)
          rw [← HR.out] at HO
          go_wp2_with (first | (refine wpList_load_row rfl 53 (.tmp 3) rfl w.heap.size rfl 53 X8 _ _ HS8.out.box.out Try.underlying53 rfl (by rw [rx_size HX8.out]; kernel_rfl) ?_) | (refine wpList_put_row rfl rfl 53 (.tmp 6) _ rfl (w.heap.size + 1) rfl 53 _ X8 rfl HS8.out.res (by rw [rx_size HX8.out]; kernel_rfl) (by rw [rx_size HX8.out]; rfl) (rx_one HX8.out) ?_))
          refine bodyPost_ret (results_cell_row2 rfl _ _ (w.heap.size + 1) 53 X8 (0, 0) _ rfl (HS8.out.res.row X8).out Try.underlying53 rfl (by rw [rx_size HX8.out]; kernel_rfl)) rfl ?_
          exact HO.out
        · have HC := Lib.hid (join_any (w := w5.drew) (B := w5.heap.size) (Nat.le_refl _) none (some ⟨g, m, none⟩) 0 (c5 - m) [] ((l.take m).drop m) 0 0 rfl (by simp <;> omega) (by omega) (by omega) Row.nil (by have hp := Bytes.part hbts m m; rw [Nat.zero_add] at hp; exact hp))
          refine wp_region_heldG [] (fun _ _ => True) (by kernel_rfl) ?_
          change wpAnyG _ _ _ _ _ _ 13 _ _ (World.drew _)
          -- take0 take1 take2 take3 take4 take5 take6 take7 take10 one8 one9 take11 one12 done
          refine g_take (i := 0) rfl rfl (by kernel_rfl) (by kernel_rfl) (by kernel_rfl) (by kernel_rfl) (by kernel_rfl) (fun _ _ _ h => h) trivial (fun L W hL hW => by go_simp; rfl) ?_
          refine g_take (i := 1) rfl rfl (by kernel_rfl) (by kernel_rfl) (by kernel_rfl) (by kernel_rfl) (by kernel_rfl) (fun _ _ _ h => h) trivial (fun L W hL hW => by go_simp; rfl) ?_
          refine g_take (i := 2) rfl rfl (by kernel_rfl) (by kernel_rfl) (by kernel_rfl) (by kernel_rfl) (by kernel_rfl) (fun _ _ _ h => h) trivial (fun L W hL hW => by go_simp; rfl) ?_
          refine g_take (i := 3) rfl rfl (by kernel_rfl) (by kernel_rfl) (by kernel_rfl) (by kernel_rfl) (by kernel_rfl) (fun _ _ _ h => h) trivial (fun L W hL hW => by go_simp; rfl) ?_
          refine g_take (i := 4) rfl rfl (by kernel_rfl) (by kernel_rfl) (by kernel_rfl) (by kernel_rfl) (by kernel_rfl) (fun _ _ _ h => h) trivial (fun L W hL hW => by go_simp; rfl) ?_
          refine g_take (i := 5) rfl rfl (by kernel_rfl) (by kernel_rfl) (by kernel_rfl) (by kernel_rfl) (by kernel_rfl) (fun _ _ _ h => h) trivial (fun L W hL hW => by go_simp; rfl) ?_
          refine g_take (i := 6) rfl rfl (by kernel_rfl) (by kernel_rfl) (by kernel_rfl) (by kernel_rfl) (by kernel_rfl) (fun _ _ _ h => h) trivial (fun L W hL hW => by go_simp; rfl) ?_
          refine g_take (i := 7) rfl rfl (by kernel_rfl) (by kernel_rfl) (by kernel_rfl) (by kernel_rfl) (by kernel_rfl) (fun _ _ _ h => h) trivial (fun L W hL hW => by go_simp; rfl) ?_
          refine g_take (i := 10) rfl rfl (by kernel_rfl) (by kernel_rfl) (by kernel_rfl) (by kernel_rfl) (by kernel_rfl) (fun _ _ _ h => h) trivial (fun L W hL hW => by go_simp; rfl) ?_
          refine g_one (i := 8) rfl rfl (by kernel_rfl) fun K hK => ?_
          go_simp
          refine Calls.mono HC.out ?_
          rintro e w6 ⟨u, rfl, hown, hb6⟩
          rw [List.nil_append] at hown
          generalize (List.drop m (List.take m l)).length = n6 at hown
          obtain ⟨A6, c6, hu⟩ := own_form hown
          subst hu
          have HREF := Lib.hid (HS6.out.own hb6 hown)
          have HREFA := Lib.hid (HRA.out.below hb6)
          have HS7 := Lib.hid (HS6.out.below hb6)
          clear hown hb6 HS6 HRA
          refine hK _ _ trivial ?_
          clear hK K
          refine g_one (i := 9) rfl rfl (by kernel_rfl) fun K hK => ?_
          go_simp
          refine hK _ _ trivial ?_
          clear hK K
          refine g_take (i := 11) rfl rfl (by kernel_rfl) (by kernel_rfl) (by kernel_rfl) (by kernel_rfl) (by kernel_rfl) (fun _ _ _ h => h) trivial (fun L W hL hW => by go_simp; rfl) ?_
          refine g_one (i := 12) rfl rfl (by kernel_rfl) fun K hK => ?_
          have qa := HS7.out.box.at_ 3 xa
          have qb := HS7.out.box.at_ 4 xb
          have qf := HS7.out.box.frozen 3
          have qg := HS7.out.box.frozen 4
          go_simp
          refine hK _ _ trivial ?_
          clear hK K qa qb qf qg
          refine wpAnyG_done (by kernel_rfl) ?_ _
          go_simp
          have HX8 : Hid ((X.setIfInBounds 3 (.slice (some ⟨g, 0, none⟩) m m)).setIfInBounds 4 (.slice A6 n6 c6) = rcells (truncD 1 m (killed s)) (upd (upd v 3 ((some ⟨g, 0, none⟩), m, m)) 4 (A6, n6, c6)) cl2 k) := Lib.hid (by rw [HX4.out]; rfl)
          have HS8 := Lib.hid (((HS7.out.re (HTR.out w6 _ _ HS7.out.rv HREFA.out HREF.out)).cell 3 (.slice (some ⟨g, 0, none⟩) m m)).cell 4 (.slice A6 n6 c6))
          clear HS7 HREF HREFA HTR HC
          generalize (X.setIfInBounds 3 (.slice (some ⟨g, 0, none⟩) m m)).setIfInBounds 4 (.slice A6 n6 c6) = X8 at *
          generalize (w6.setCell ⟨w.heap.size, 3, none⟩ (.slice (some ⟨g, 0, none⟩) m m)).setCell ⟨w.heap.size, 4, none⟩ (.slice A6 n6 c6) = w8 at *
          have HO := Lib.hid (HS8.out.out HX8.out 0)
          rw [← HR.out] at HO
          go_wp2_with (first | (refine wpList_load_row rfl 53 (.tmp 3) rfl w.heap.size rfl 53 X8 _ _ HS8.out.box.out Try.underlying53 rfl (by rw [rx_size HX8.out]; kernel_rfl) ?_) | (refine wpList_put_row rfl rfl 53 (.tmp 6) _ rfl (w.heap.size + 1) rfl 53 _ X8 rfl HS8.out.res (by rw [rx_size HX8.out]; kernel_rfl) (by rw [rx_size HX8.out]; rfl) (rx_one HX8.out) ?_))
          refine bodyPost_ret (results_cell_row2 rfl _ _ (w.heap.size + 1) 53 X8 (0, 0) _ rfl (HS8.out.res.row X8).out Try.underlying53 rfl (by rw [rx_size HX8.out]; kernel_rfl)) rfl ?_
          exact HO.out
    · have u2 : ¬ (m : Int) < (sf0 : Int) := by omega
      obtain rfl : sf = sf0 := by omega
      clear hsfm hlt
      go_upto_region 12 with fail
      clear u2
      rcases hblk with ⟨rfl, rfl, rfl, rfl⟩ | ⟨g, rfl, hg, hbts⟩
      · obtain rfl : m = 0 := by omega
        obtain rfl : sf = 0 := by omega
        have HRA : Hid (Ref w5.drew (Two F w.heap.size) (none, 0, 0) ((List.take 0 ([] : List UInt8)).take 0)) := Lib.hid (Ref.nil _ _)
        have HC := Lib.hid (join_any (w := w5.drew) (B := w5.heap.size) (Nat.le_refl _) none none 0 0 [] (List.drop 0 (List.take 0 ([] : List UInt8))) 0 0 rfl rfl (by omega) (by omega) Row.nil Row.nil)
        refine wp_region_heldG [] (fun _ _ => True) (by kernel_rfl) ?_
        change wpAnyG _ _ _ _ _ _ 13 _ _ (World.drew _)
        -- take0 take1 take2 take3 take4 take5 take6 take7 take10 one8 one9 take11 one12 done
        refine g_take (i := 0) rfl rfl (by kernel_rfl) (by kernel_rfl) (by kernel_rfl) (by kernel_rfl) (by kernel_rfl) (fun _ _ _ h => h) trivial (fun L W hL hW => by go_simp; rfl) ?_
        refine g_take (i := 1) rfl rfl (by kernel_rfl) (by kernel_rfl) (by kernel_rfl) (by kernel_rfl) (by kernel_rfl) (fun _ _ _ h => h) trivial (fun L W hL hW => by go_simp; rfl) ?_
        refine g_take (i := 2) rfl rfl (by kernel_rfl) (by kernel_rfl) (by kernel_rfl) (by kernel_rfl) (by kernel_rfl) (fun _ _ _ h => h) trivial (fun L W hL hW => by go_simp; rfl) ?_
        refine g_take (i := 3) rfl rfl (by kernel_rfl) (by kernel_rfl) (by kernel_rfl) (by kernel_rfl) (by kernel_rfl) (fun _ _ _ h => h) trivial (fun L W hL hW => by go_simp; rfl) ?_
        refine g_take (i := 4) rfl rfl (by kernel_rfl) (by kernel_rfl) (by kernel_rfl) (by kernel_rfl) (by kernel_rfl) (fun _ _ _ h => h) trivial (fun L W hL hW => by go_simp; rfl) ?_
        refine g_take (i := 5) rfl rfl (by kernel_rfl) (by kernel_rfl) (by kernel_rfl) (by kernel_rfl) (by kernel_rfl) (fun _ _ _ h => h) trivial (fun L W hL hW => by go_simp; rfl) ?_
        refine g_take (i := 6) rfl rfl (by kernel_rfl) (by kernel_rfl) (by kernel_rfl) (by kernel_rfl) (by kernel_rfl) (fun _ _ _ h => h) trivial (fun L W hL hW => by go_simp; rfl) ?_
        refine g_take (i := 7) rfl rfl (by kernel_rfl) (by kernel_rfl) (by kernel_rfl) (by kernel_rfl) (by kernel_rfl) (fun _ _ _ h => h) trivial (fun L W hL hW => by go_simp; rfl) ?_
        refine g_take (i := 10) rfl rfl (by kernel_rfl) (by kernel_rfl) (by kernel_rfl) (by kernel_rfl) (by kernel_rfl) (fun _ _ _ h => h) trivial (fun L W hL hW => by go_simp; rfl) ?_
        refine g_one (i := 8) rfl rfl (by kernel_rfl) fun K hK => ?_
        go_simp
        refine Calls.mono HC.out ?_
        rintro e w6 ⟨u, rfl, hown, hb6⟩
        rw [List.nil_append] at hown
        generalize (List.drop 0 (List.take 0 [])).length = n6 at hown
        obtain ⟨A6, c6, hu⟩ := own_form hown
        subst hu
        have HREF := Lib.hid (HS6.out.own hb6 hown)
        have HREFA := Lib.hid (HRA.out.below hb6)
        have HS7 := Lib.hid (HS6.out.below hb6)
        clear hown hb6 HS6 HRA
        refine hK _ _ trivial ?_
        clear hK K
        refine g_one (i := 9) rfl rfl (by kernel_rfl) fun K hK => ?_
        go_simp
        refine hK _ _ trivial ?_
        clear hK K
        refine g_take (i := 11) rfl rfl (by kernel_rfl) (by kernel_rfl) (by kernel_rfl) (by kernel_rfl) (by kernel_rfl) (fun _ _ _ h => h) trivial (fun L W hL hW => by go_simp; rfl) ?_
        refine g_one (i := 12) rfl rfl (by kernel_rfl) fun K hK => ?_
        have qa := HS7.out.box.at_ 3 xa
        have qb := HS7.out.box.at_ 4 xb
        have qf := HS7.out.box.frozen 3
        have qg := HS7.out.box.frozen 4
        go_simp
        refine hK _ _ trivial ?_
        clear hK K qa qb qf qg
        refine wpAnyG_done (by kernel_rfl) ?_ _
        go_simp
        have HX8 : Hid ((X.setIfInBounds 3 (.slice none 0 0)).setIfInBounds 4 (.slice A6 n6 c6) = rcells (truncD 1 0 (killed s)) (upd (upd v 3 (none, 0, 0)) 4 (A6, n6, c6)) cl2 k) := Lib.hid (by rw [HX4.out]; rfl)
        have HS8 := Lib.hid (((HS7.out.re (HTR.out w6 _ _ HS7.out.rv HREFA.out HREF.out)).cell 3 (.slice none 0 0)).cell 4 (.slice A6 n6 c6))
        clear HS7 HREF HREFA HTR HC
        generalize (X.setIfInBounds 3 (.slice none 0 0)).setIfInBounds 4 (.slice A6 n6 c6) = X8 at *
        generalize (w6.setCell ⟨w.heap.size, 3, none⟩ (.slice none 0 0)).setCell ⟨w.heap.size, 4, none⟩ (.slice A6 n6 c6) = w8 at *
        have HO := Lib.hid (HS8.out.out HX8.out 0)
        rw [← HR.out] at HO
        go_wp2_with (first | (refine wpList_load_row rfl 53 (.tmp 3) rfl w.heap.size rfl 53 X8 _ _ HS8.out.box.out Try.underlying53 rfl (by rw [rx_size HX8.out]; kernel_rfl) ?_) | (refine wpList_put_row rfl rfl 53 (.tmp 6) _ rfl (w.heap.size + 1) rfl 53 _ X8 rfl HS8.out.res (by rw [rx_size HX8.out]; kernel_rfl) (by rw [rx_size HX8.out]; rfl) (rx_one HX8.out) ?_))
        refine bodyPost_ret (results_cell_row2 rfl _ _ (w.heap.size + 1) 53 X8 (0, 0) _ rfl (HS8.out.res.row X8).out Try.underlying53 rfl (by rw [rx_size HX8.out]; kernel_rfl)) rfl ?_
        exact HO.out
      · have HRA : Hid (Ref w5.drew (Two F w.heap.size) (some ⟨g, 0, none⟩, sf, sf) ((l.take m).take sf)) := Lib.hid ⟨by simp; omega, Nat.le_refl _, by show sf ≤ maxLen; unfold maxLen; omega, (hbts.head m).head sf, fun _ b o e => by cases e; intro hf; have := HS4.out.lt _ hf; omega⟩
        by_cases hcap : c5 = sf
        · have HC := Lib.hid (join_any (w := w5.drew) (B := w5.heap.size) (Nat.le_refl _) none (some ⟨g, 0, none⟩) 0 0 [] ((l.take m).drop sf) 0 (m - sf) rfl (by simp <;> omega) (by omega) (by omega) Row.nil (by rw [List.drop_of_length_le (by simp; omega)]; exact Row.nil))
          refine wp_region_heldG [] (fun _ _ => True) (by kernel_rfl) ?_
          change wpAnyG _ _ _ _ _ _ 13 _ _ (World.drew _)
          -- take0 take1 take2 take3 take4 take5 take6 take7 take10 one8 one9 take11 one12 done
          refine g_take (i := 0) rfl rfl (by kernel_rfl) (by kernel_rfl) (by kernel_rfl) (by kernel_rfl) (by kernel_rfl) (fun _ _ _ h => h) trivial (fun L W hL hW => by go_simp; rfl) ?_
          refine g_take (i := 1) rfl rfl (by kernel_rfl) (by kernel_rfl) (by kernel_rfl) (by kernel_rfl) (by kernel_rfl) (fun _ _ _ h => h) trivial (fun L W hL hW => by go_simp; rfl) ?_
          refine g_take (i := 2) rfl rfl (by kernel_rfl) (by kernel_rfl) (by kernel_rfl) (by kernel_rfl) (by kernel_rfl) (fun _ _ _ h => h) trivial (fun L W hL hW => by go_simp; rfl) ?_
          refine g_take (i := 3) rfl rfl (by kernel_rfl) (by kernel_rfl) (by kernel_rfl) (by kernel_rfl) (by kernel_rfl) (fun _ _ _ h => h) trivial (fun L W hL hW => by go_simp; rfl) ?_
          refine g_take (i := 4) rfl rfl (by kernel_rfl) (by kernel_rfl) (by kernel_rfl) (by kernel_rfl) (by kernel_rfl) (fun _ _ _ h => h) trivial (fun L W hL hW => by go_simp; rfl) ?_
          refine g_take (i := 5) rfl rfl (by kernel_rfl) (by kernel_rfl) (by kernel_rfl) (by kernel_rfl) (by kernel_rfl) (fun _ _ _ h => h) trivial (fun L W hL hW => by go_simp; rfl) ?_
          refine g_take (i := 6) rfl rfl (by kernel_rfl) (by kernel_rfl) (by kernel_rfl) (by kernel_rfl) (by kernel_rfl) (fun _ _ _ h => h) trivial (fun L W hL hW => by go_simp; rfl) ?_
          refine g_take (i := 7) rfl rfl (by kernel_rfl) (by kernel_rfl) (by kernel_rfl) (by kernel_rfl) (by kernel_rfl) (fun _ _ _ h => h) trivial (fun L W hL hW => by go_simp; rfl) ?_
          refine g_take (i := 10) rfl rfl (by kernel_rfl) (by kernel_rfl) (by kernel_rfl) (by kernel_rfl) (by kernel_rfl) (fun _ _ _ h => h) trivial (fun L W hL hW => by go_simp; rfl) ?_
          refine g_one (i := 8) rfl rfl (by kernel_rfl) fun K hK => ?_
          go_simp
          refine Calls.mono HC.out ?_
          rintro e w6 ⟨u, rfl, hown, hb6⟩
          rw [List.nil_append] at hown
          generalize (List.drop sf (List.take m l)).length = n6 at hown
          obtain ⟨A6, c6, hu⟩ := own_form hown
          subst hu
          have HREF := Lib.hid (HS6.out.own hb6 hown)
          have HREFA := Lib.hid (HRA.out.below hb6)
          have HS7 := Lib.hid (HS6.out.below hb6)
          clear hown hb6 HS6 HRA
          refine hK _ _ trivial ?_
          clear hK K
          refine g_one (i := 9) rfl rfl (by kernel_rfl) fun K hK => ?_
          go_simp
          refine hK _ _ trivial ?_
          clear hK K
          refine g_take (i := 11) rfl rfl (by kernel_rfl) (by kernel_rfl) (by kernel_rfl) (by kernel_rfl) (by kernel_rfl) (fun _ _ _ h => h) trivial (fun L W hL hW => by go_simp; rfl) ?_
          refine g_one (i := 12) rfl rfl (by kernel_rfl) fun K hK => ?_
          have qa := HS7.out.box.at_ 3 xa
          have qb := HS7.out.box.at_ 4 xb
          have qf := HS7.out.box.frozen 3
          have qg := HS7.out.box.frozen 4
          go_simp
          refine hK _ _ trivial ?_
          clear hK K qa qb qf qg
          refine wpAnyG_done (by kernel_rfl) ?_ _
          go_simp
          have HX8 : Hid ((X.setIfInBounds 3 (.slice (some ⟨g, 0, none⟩) sf sf)).setIfInBounds 4 (.slice A6 n6 c6) = rcells (truncD 1 m (killed s)) (upd (upd v 3 ((some ⟨g, 0, none⟩), sf, sf)) 4 (A6, n6, c6)) cl2 k) := Lib.hid (by rw [HX4.out]; rfl)
          have HS8 := Lib.hid (((HS7.out.re (HTR.out w6 _ _ HS7.out.rv HREFA.out HREF.out)).cell 3 (.slice (some ⟨g, 0, none⟩) sf sf)).cell 4 (.slice A6 n6 c6))
          clear HS7 HREF HREFA HTR HC
          generalize (X.setIfInBounds 3 (.slice (some ⟨g, 0, none⟩) sf sf)).setIfInBounds 4 (.slice A6 n6 c6) = X8 at *
          generalize (w6.setCell ⟨w.heap.size, 3, none⟩ (.slice (some ⟨g, 0, none⟩) sf sf)).setCell ⟨w.heap.size, 4, none⟩ (.slice A6 n6 c6) = w8 at *
          have HO := Lib.hid (HS8.out.out HX8.out 0)
          rw [← HR.out] at HO
          go_wp2_with (first | (refine wpList_load_row rfl 53 (.tmp 3) rfl w.heap.size rfl 53 X8 _ _ HS8.out.box.out Try.underlying53 rfl (by rw [rx_size HX8.out]; kernel_rfl) ?_) | (refine wpList_put_row rfl rfl 53 (.tmp 6) _ rfl (w.heap.size + 1) rfl 53 _ X8 rfl HS8.out.res (by rw [rx_size HX8.out]; kernel_rfl) (by rw [rx_size HX8.out]; rfl) (rx_one HX8.out) ?_))
          refine bodyPost_ret (results_cell_row2 rfl _ _ (w.heap.size + 1) 53 X8 (0, 0) _ rfl (HS8.out.res.row X8).out Try.underlying53 rfl (by rw [rx_size HX8.out]; kernel_rfl)) rfl ?_
          exact HO.out
        · have HC := Lib.hid (join_any (w := w5.drew) (B := w5.heap.size) (Nat.le_refl _) none (some ⟨g, sf, none⟩) 0 (c5 - sf) [] ((l.take m).drop sf) 0 (m - sf) rfl (by simp <;> omega) (by omega) (by omega) Row.nil (by have hp := Bytes.part hbts sf m; rw [Nat.zero_add] at hp; exact hp))
          refine wp_region_heldG [] (fun _ _ => True) (by kernel_rfl) ?_
          change wpAnyG _ _ _ _ _ _ 13 _ _ (World.drew _)
          -- take0 take1 take2 take3 take4 take5 take6 take7 take10 one8 one9 take11 one12 done
          refine g_take (i := 0) rfl rfl (by kernel_rfl) (by kernel_rfl) (by kernel_rfl) (by kernel_rfl) (by kernel_rfl) (fun _ _ _ h => h) trivial (fun L W hL hW => by go_simp; rfl) ?_
          refine g_take (i := 1) rfl rfl (by kernel_rfl) (by kernel_rfl) (by kernel_rfl) (by kernel_rfl) (by kernel_rfl) (fun _ _ _ h => h) trivial (fun L W hL hW => by go_simp; rfl) ?_
          refine g_take (i := 2) rfl rfl (by kernel_rfl) (by kernel_rfl) (by kernel_rfl) (by kernel_rfl) (by kernel_rfl) (fun _ _ _ h => h) trivial (fun L W hL hW => by go_simp; rfl) ?_
          refine g_take (i := 3) rfl rfl (by kernel_rfl) (by kernel_rfl) (by kernel_rfl) (by kernel_rfl) (by kernel_rfl) (fun _ _ _ h => h) trivial (fun L W hL hW => by go_simp; rfl) ?_
          refine g_take (i := 4) rfl rfl (by kernel_rfl) (by kernel_rfl) (by kernel_rfl) (by kernel_rfl) (by kernel_rfl) (fun _ _ _ h => h) trivial (fun L W hL hW => by go_simp; rfl) ?_
          refine g_take (i := 5) rfl rfl (by kernel_rfl) (by kernel_rfl) (by kernel_rfl) (by kernel_rfl) (by kernel_rfl) (fun _ _ _ h => h) trivial (fun L W hL hW => by go_simp; rfl) ?_
          refine g_take (i := 6) rfl rfl (by kernel_rfl) (by kernel_rfl) (by kernel_rfl) (by kernel_rfl) (by kernel_rfl) (fun _ _ _ h => h) trivial (fun L W hL hW => by go_simp; rfl) ?_
          refine g_take (i := 7) rfl rfl (by kernel_rfl) (by kernel_rfl) (by kernel_rfl) (by kernel_rfl) (by kernel_rfl) (fun _ _ _ h => h) trivial (fun L W hL hW => by go_simp; rfl) ?_
          refine g_take (i := 10) rfl rfl (by kernel_rfl) (by kernel_rfl) (by kernel_rfl) (by kernel_rfl) (by kernel_rfl) (fun _ _ _ h => h) trivial (fun L W hL hW => by go_simp; rfl) ?_
          refine g_one (i := 8) rfl rfl (by kernel_rfl) fun K hK => ?_
          go_simp
          refine Calls.mono HC.out ?_
          rintro e w6 ⟨u, rfl, hown, hb6⟩
          rw [List.nil_append] at hown
          generalize (List.drop sf (List.take m l)).length = n6 at hown
          obtain ⟨A6, c6, hu⟩ := own_form hown
          subst hu
          have HREF := Lib.hid (HS6.out.own hb6 hown)
          have HREFA := Lib.hid (HRA.out.below hb6)
          have HS7 := Lib.hid (HS6.out.below hb6)
          clear hown hb6 HS6 HRA
          refine hK _ _ trivial ?_
          clear hK K
          refine g_one (i := 9) rfl rfl (by kernel_rfl) fun K hK => ?_
          go_simp
          refine hK _ _ trivial ?_
          clear hK K
          refine g_take (i := 11) rfl rfl (by kernel_rfl) (by kernel_rfl) (by kernel_rfl) (by kernel_rfl) (by kernel_rfl) (fun _ _ _ h => h) trivial (fun L W hL hW => by go_simp; rfl) ?_
          refine g_one (i := 12) rfl rfl (by kernel_rfl) fun K hK => ?_
          have qa := HS7.out.box.at_ 3 xa
          have qb := HS7.out.box.at_ 4 xb
          have qf := HS7.out.box.frozen 3
          have qg := HS7.out.box.frozen 4
          go_simp
          refine hK _ _ trivial ?_
          clear hK K qa qb qf qg
          refine wpAnyG_done (by kernel_rfl) ?_ _
          go_simp
          have HX8 : Hid ((X.setIfInBounds 3 (.slice (some ⟨g, 0, none⟩) sf sf)).setIfInBounds 4 (.slice A6 n6 c6) = rcells (truncD 1 m (killed s)) (upd (upd v 3 ((some ⟨g, 0, none⟩), sf, sf)) 4 (A6, n6, c6)) cl2 k) := Lib.hid (by rw [HX4.out]; rfl)
          have HS8 := Lib.hid (((HS7.out.re (HTR.out w6 _ _ HS7.out.rv HREFA.out HREF.out)).cell 3 (.slice (some ⟨g, 0, none⟩) sf sf)).cell 4 (.slice A6 n6 c6))
          clear HS7 HREF HREFA HTR HC
          generalize (X.setIfInBounds 3 (.slice (some ⟨g, 0, none⟩) sf sf)).setIfInBounds 4 (.slice A6 n6 c6) = X8 at *
          generalize (w6.setCell ⟨w.heap.size, 3, none⟩ (.slice (some ⟨g, 0, none⟩) sf sf)).setCell ⟨w.heap.size, 4, none⟩ (.slice A6 n6 c6) = w8 at *
          have HO := Lib.hid (HS8.out.out HX8.out 0)
          rw [← HR.out] at HO
          go_wp2_with (first | (refine wpList_load_row rfl 53 (.tmp 3) rfl w.heap.size rfl 53 X8 _ _ HS8.out.box.out Try.underlying53 rfl (by rw [rx_size HX8.out]; kernel_rfl) ?_) | (refine wpList_put_row rfl rfl 53 (.tmp 6) _ rfl (w.heap.size + 1) rfl 53 _ X8 rfl HS8.out.res (by rw [rx_size HX8.out]; kernel_rfl) (by rw [rx_size HX8.out]; rfl) (rx_one HX8.out) ?_))
          refine bodyPost_ret (results_cell_row2 rfl _ _ (w.heap.size + 1) 53 X8 (0, 0) _ rfl (HS8.out.res.row X8).out Try.underlying53 rfl (by rw [rx_size HX8.out]; kernel_rfl)) rfl ?_
          exact HO.out
end
end Go.Proofs.Ytgajgjijnpigoaa.Dr
