/-
  The walk of a part's closure.
-/
import Derived.Test.YtelplccbcbegkaaOrderPart0
namespace Go.Proofs.Ytelplccbcbegkaa.OrW
set_option linter.unusedVariables false
open Go Go.RowKit Go.Maps Go.Proofs Go.Proofs.Ytelplccbcbegkaa Go.Proofs.Ytelplccbcbegkaa.Wd Go.Proofs.Ytelplccbcbegkaa.GrW Go.Proofs.Ytelplccbcbegkaa.Ord
open Go.Proofs.Ytelplccbcbegkaa.Gr (OK putL)

/-- What a part is of: where edges go to, which places may be. -/
structure NM (w0 : World) (fN fM : FuncId) (g bh n : Nat) (nx : Nat → List Int) (qp : Nat → Bool) : Prop where
  inN : ∀ (args : Array Value) (w : World), (callFunc fN args).run Try.prog w = .ok (.enter fN args) w
  inM : ∀ (args : Array Value) (w : World), (callFunc fM args).run Try.prog w = .ok (.enter fM args) w
  next : ∀ W, Below w0.heap.size w0 W → ∀ x, x < n → Calls Try.prog fN #[.pointer (some ⟨g, 0, none⟩), .int .i64 (x : Nat)] W (NumsOut W (nx x))
  may : ∀ W, Below w0.heap.size w0 W → ∀ p : Nat, Calls Try.prog fM #[.int .i64 (p : Nat), .pointer (some ⟨bh, 0, none⟩)] W fun e w' => e = .returned (.bool (qp p)) ∧ W = w'
  inside : ∀ x, x < n → ∀ z ∈ nx x, 0 ≤ z ∧ z < n
  few : ∀ x, x < n → (nx x).length ≤ 30000
abbrev nextV (fN : FuncId) (g : Nat) : Value := .func (.func fN) #[.pointer (some ⟨g, 0, none⟩)] #[]
abbrev mayV (fM : FuncId) (bh : Nat) : Value := .func (.func fM) #[] #[.pointer (some ⟨bh, 0, none⟩)]
def FromOut (w0 W : World) (o bm bu bo bx bf bq mb n : Nat) (nv mv : Value) (P K : List Nat) (nx : Nat → List Int) (q : Nat → Bool) (x : Nat) (e : Ending) (w' : World) : Prop :=
  ∃ K', e = .returned (.tuple #[]) ∧ PS w0 w' o bm bu bo bx bf bq mb nv mv P K' K' ∧ PGo nx q K K' x ∧ (∀ y ∈ K', y < n) ∧ PFr mb bu W w'
def Goes (w0 : World) (o bm bu bo bx bf bq mb n : Nat) (nv mv : Value) (P : List Nat) (nx : Nat → List Int) (q : Nat → Bool) (k : Nat) : Prop :=
  ∀ (K : List Nat) (W : World) (x : Nat), PS w0 W o bm bu bo bx bf bq mb nv mv P K K → x < n → x ∉ K → K.Nodup → (∀ y ∈ K, y < n) → n - K.length ≤ k →
    Calls Try.prog 76 #[.int .i64 (x : Nat), .pointer (some ⟨bm, 0, none⟩), .pointer (some ⟨bu, 0, none⟩), .pointer (some ⟨bo, 0, none⟩), .pointer (some ⟨bx, 0, none⟩), .pointer (some ⟨bf, 0, none⟩), .pointer (some ⟨bq, 0, none⟩)] W (FromOut w0 W o bm bu bo bx bf bq mb n nv mv P K nx q x)
set_option maxRecDepth 100000 in
set_option maxHeartbeats 8000000 in
theorem goes_next (w0 : World) (base o bm bu bo bx bf bq mb n g bh : Nat) (fN fM : FuncId) (F Fg : Nat → Prop) (L : List (List Int)) (P A : List Nat) (vp va : Value) (hO : OParts w0 base F o n L P A g vp va Fg) (hP : Perm n P A) (hn : n ≤ 30000) (nx : Nat → List Int) (qp : Nat → Bool) (hNM : NM w0 fN fM g bh n nx qp) (k : Nat)
    (hG : Goes w0 o bm bu bo bx bf bq mb n (nextV fN g) (mayV fM bh) P nx (fun y => qp (P.getD y 0)) k) : Goes w0 o bm bu bo bx bf bq mb n (nextV fN g) (mayV fM bh) P nx (fun y => qp (P.getD y 0)) (k + 1) := by
  intro K W x hS hx hxK hnd hKn hk
  have HO := Lib.hid hO
  have HNM := Lib.hid hNM
  have hinN := hNM.inN
  have hinM := hNM.inM
  have HG := Lib.hid hG
  have HPn : Hid (∀ W, Below w0.heap.size w0 W → ∀ i, i < n → ∃ b off c, vp = .slice (some ⟨b, off, none⟩) n c ∧ W.cell? ⟨o, 1, none⟩ = some vp ∧ W.cell? ⟨b, off + i, none⟩ = some (.int .i64 (P.getD i 0 : Nat))) := Lib.hid (fun W hW i hi => by
    obtain ⟨b, off, c, e1, e2, -⟩ := (hO.below hW).place (i := i) (by rw [hP.lp]; exact hi) 0
    rw [hP.lp] at e1
    exact ⟨b, off, c, e1, (hO.below hW).cells.2.1, e2⟩)
  have hlenK : K.length < n := by
    have h1 := nodup_le (n := n) (K := K ++ [x]) (by
      rw [List.nodup_append]
      exact ⟨hnd, by simp, fun a ha b hb e => by
        have : b = x := by simpa using hb
        subst this
        exact hxK (e ▸ ha)⟩) (fun y hy => by
      rcases List.mem_append.1 hy with h | h
      · exact hKn y h
      · have : y = x := by simpa using h
        omega)
    rw [List.length_append, List.length_singleton] at h1
    omega
  have HKN := Lib.hid hKn
  have HX := Lib.hid hxK
  have HND := Lib.hid hnd
  obtain ⟨D, hMp, hIP⟩ := hS.hmap
  have HIP := Lib.hid hIP
  have HS := Lib.hid hS
  have hlen : K.length < maxLen := by unfold maxLen; omega
  have hkey : keyOf Try.prog 3 (.int .i64 (x : Int)) = some (.int .i64 (x : Int)) := keyOf_int_mk Try.underlying3 (WalkArith.wf_i64 (by omega))
  have cm := hS.hm.at_ 0 rfl
  have HPK := Lib.hid hP
  clear hO hNM hG hS hxK hnd hKn hIP hP
  go_enter Try.func76, Try.ntmps76
  go_wp2_with (first | (at_mapUpdate; refine wpList_mapUpdate_own _ rfl _ _ _ 31 rfl 3 3 law Try.underlying31 _ mb K.length D rfl hMp hlen _ _ _ rfl rfl hkey _ [] (plainElem_int Try.underlying3 (by decide)) ?_; intro w4 hown4 hgrow4) | fail)
  obtain ⟨hS4, hF4⟩ := HS.out.meet HX.out HIP.out hown4 hgrow4
  have HS4 := Lib.hid hS4
  have HF4 := Lib.hid hF4
  clear hS4 hF4 hown4 hgrow4 hMp hlen hkey cm HIP HS
  obtain ⟨v, u1, u2⟩ := HS4.out.hu
  obtain ⟨Au, cu, hvu⟩ := own_form u2
  obtain ⟨bp, op, cp, hvp, -, -⟩ := HPn.out _ HS4.out.low x hx
  have HVP := Lib.hid hvp
  subst hvu
  have HU2 := Lib.hid u2
  have hcu := u1.at_ 0 rfl
  have hfu := u1.frozen 0
  clear u1 u2
  have HC4 : Hid (∀ W, Below w0.heap.size w0 W → Blk W bo 23 #[.pointer (some ⟨o, 0, none⟩)] → W.cell? ⟨bo, 0, none⟩ = some (.pointer (some ⟨o, 0, none⟩)) ∧ W.cell? ⟨o, 1, none⟩ = some (.slice (some ⟨bp, op, none⟩) n cp) ∧ W.cell? ⟨bp, op + x, none⟩ = some (.int .i64 (P.getD x 0 : Nat))) := Lib.hid (fun W hW hb => by
    obtain ⟨b, off, c, e1, e2, e3⟩ := HPn.out W hW x hx
    have e4 := e1.symm.trans HVP.out
    simp only [Value.slice.injEq, Option.some.injEq, Addr.mk.injEq, and_true, true_and] at e4
    obtain ⟨⟨rfl, rfl⟩, rfl⟩ := e4
    exact ⟨hb.at_ 0 rfl, e2.trans (by rw [HVP.out]), e3⟩)
  have i1 : (0 : Int) ≤ (x : Int) := by omega
  have i2 : (x : Int) < (n : Int) := by omega
  clear hvp
  generalize hpx : P.getD x 0 = px at HC4
  have HPX := Lib.hid hpx
  clear hpx
  refine wp_region_heldG [9] (fun cc W => (W.cell? ⟨bo, 0, none⟩ = some (.pointer (some ⟨o, 0, none⟩)) ∧ W.cell? ⟨o, 1, none⟩ = some (.slice (some ⟨bp, op, none⟩) n cp) ∧ W.cell? ⟨bp, op + x, none⟩ = some (.int .i64 (px : Nat))) ∧ (cc 9 = true ∨ W.cell? ⟨bu, 0, none⟩ = some (.slice Au (pls P K).length cu))) (by kernel_rfl) ?_
  change wpAnyG _ _ _ _ _ _ 11 _ _ w4.drew
  have hS := HC4.out w4.drew HS4.out.low.drew HS4.out.ho
  have hS9 : w4.drew.cell? ⟨bu, 0, none⟩ = some (.slice Au (pls P K).length cu) := hcu
  refine g_take (i := 0) rfl rfl (by kernel_rfl) (by kernel_rfl) (by kernel_rfl) (by kernel_rfl) (by kernel_rfl) (fun _ _ _ h => h) ⟨hS, .inr hS9⟩ (fun L' W' hL hW => by obtain ⟨⟨k0, k1, k2⟩, k3⟩ := hW; have k4 := k3.resolve_left (by simp [came, hL 9 (by kernel_rfl)]); go_simp; rfl) ?_
  refine g_take (i := 1) rfl rfl (by kernel_rfl) (by kernel_rfl) (by kernel_rfl) (by kernel_rfl) (by kernel_rfl) (fun _ _ _ h => h) ⟨hS, .inr hS9⟩ (fun L' W' hL hW => by obtain ⟨⟨k0, k1, k2⟩, k3⟩ := hW; go_simp; rfl) ?_
  refine g_take (i := 2) rfl rfl (by kernel_rfl) (by kernel_rfl) (by kernel_rfl) (by kernel_rfl) (by kernel_rfl) (fun _ _ _ h => h) ⟨hS, .inr hS9⟩ (fun L' W' hL hW => by go_simp; rfl) ?_
  refine g_take (i := 3) rfl rfl (by kernel_rfl) (by kernel_rfl) (by kernel_rfl) (by kernel_rfl) (by kernel_rfl) (fun _ _ _ h => h) ⟨hS, .inr hS9⟩ (fun L' W' hL hW => by go_simp; rfl) ?_
  refine g_take (i := 4) rfl rfl (by kernel_rfl) (by kernel_rfl) (by kernel_rfl) (by kernel_rfl) (by kernel_rfl) (fun _ _ _ h => h) ⟨hS, .inr hS9⟩ (fun L' W' hL hW => by obtain ⟨⟨k0, k1, k2⟩, k3⟩ := hW; go_simp; rfl) ?_
  refine g_take (i := 5) rfl rfl (by kernel_rfl) (by kernel_rfl) (by kernel_rfl) (by kernel_rfl) (by kernel_rfl) (fun _ _ _ h => h) ⟨hS, .inr hS9⟩ (fun L' W' hL hW => by go_simp; rfl) ?_
  refine g_take (i := 6) rfl rfl (by kernel_rfl) (by kernel_rfl) (by kernel_rfl) (by kernel_rfl) (by kernel_rfl) (fun _ _ _ h => h) ⟨hS, .inr hS9⟩ (fun L' W' hL hW => by go_simp; rfl) ?_
  refine g_take (i := 7) rfl rfl (by kernel_rfl) (by kernel_rfl) (by kernel_rfl) (by kernel_rfl) (by kernel_rfl) (fun _ _ _ h => h) ⟨hS, .inr hS9⟩ (fun L' W' hL hW => by obtain ⟨⟨k0, k1, k2⟩, k3⟩ := hW; go_simp; rfl) ?_
  clear hS hS9
  refine g_one (i := 8) rfl rfl (by kernel_rfl) fun K' hK => ?_
  go_simp
  have HPS5 := Lib.hid (HS4.out.below (((Below.refl _ w4).alloc (Nat.le_refl _) (.cells #[.int .i64 (px : Nat)] 3)).drew))
  have HPF5 := Lib.hid (PFr.below HS4.out (((Below.refl _ w4).alloc (Nat.le_refl _) (.cells #[.int .i64 (px : Nat)] 3)).drew))
  have HBN := Lib.hid ((Blk.new_ w4 3 #[.int .i64 (px : Nat)] (n := w4.heap.size) rfl).drew)
  have HU5 := Lib.hid ((HU2.out.alloc (.cells #[.int .i64 (px : Nat)] 3)).drew)
  have hcu5 : (w4.alloc (.cells #[.int .i64 (px : Nat)] 3)).drew.cell? ⟨bu, 0, none⟩ = some (.slice Au (pls P K).length cu) := by
    obtain ⟨v, u1, -⟩ := HPS5.out.hu
    obtain ⟨v', u1', -⟩ := HS4.out.hu
    have e1 := u1'.at_ 0 rfl
    rw [hcu] at e1
    cases e1
    have e2 := (u1'.alloc (.cells #[.int .i64 (px : Nat)] 3)).drew.at_ 0 rfl
    exact e2
  refine hK _ _ ⟨HC4.out _ HPS5.out.low HPS5.out.ho, .inr hcu5⟩ ?_
  clear hK K'
  have hsz5 : w4.heap.size + 1 = (w4.alloc (.cells #[.int .i64 (px : Nat)] 3)).drew.heap.size := by simp
  generalize (w4.alloc (.cells #[.int .i64 (px : Nat)] 3)).drew = w5 at *
  clear hcu hfu HU2
  have hb05 : w0.heap.size ≤ w5.heap.size := HPS5.out.low.size
  refine g_one (i := 9) rfl rfl (by kernel_rfl) fun K' hK => ?_
  refine wp_push (.tmp 12) (.tmp 20) rfl w0.heap.size (.slice Au (pls P K).length cu) (pls P K).length (zs (pls P K)) (by rw [zs_length]) rfl HU5.out w4.heap.size (px : Nat) rfl HBN.out (by rw [pls_length]; omega) hb05 ?_
  intro v6 w6 o6 g6 ob6
  obtain ⟨hS6, hF6, hc6, hz6, hbo6, hl6⟩ := HPS5.out.tell (x := x) hcu5 (by rw [HPX.out]; exact o6) g6 (ob6.imp id fun e => ⟨_, e, Nat.le_refl _⟩)
  obtain ⟨A6, cp6, rfl⟩ := own_form o6
  have HS6 := Lib.hid hS6
  have HF6 := Lib.hid hF6
  have hS6' := HC4.out _ hl6 hbo6
  refine hK _ _ ⟨hS6', .inl rfl⟩ ?_
  clear hK K' hS6 hF6 o6 g6 ob6 HU5 HBN hcu5 hbo6 hl6
  refine g_one (i := 10) rfl rfl (by kernel_rfl) fun K' hK => ?_
  go_simp
  refine hK _ _ ⟨HC4.out _ HS6.out.low HS6.out.ho, .inl rfl⟩ ?_
  clear hK K'
  refine wpAnyG_done (by kernel_rfl) ?_ _
  clear hc6 hz6 hS6'
  go_simp
  generalize w6.setCell ⟨bu, 0, none⟩ (.slice A6 ((pls P K).length + 1) cp6) = w7 at *
  have HF7 := Lib.hid ((HF4.out.trans HPF5.out).trans HF6.out)
  clear HF4 HPF5 HF6 HC4 HS4 HPS5 hb05
  have c4 : w7.cell? ⟨bx, 0, none⟩ = some (.func (.func fN) #[.pointer (some ⟨g, 0, none⟩)] #[]) := HS6.out.hx.at_ 0 rfl
  go_wp2_with fail
  refine Calls.mono (HNM.out.next w7 HS6.out.low x hx) ?_
  rintro e w8 ⟨vr, rfl, hro, hb8⟩
  obtain ⟨Ar, cr, rfl⟩ := own_form hro
  have HRO := Lib.hid hro
  have HS8 := Lib.hid (HS6.out.below hb8)
  have HF8 := Lib.hid (HF7.out.trans (PFr.below HS6.out hb8))
  have HNI : Hid (∀ k, w7.heap.size ≤ k → k < w8.heap.size → ¬ Fo mb bu w8 k) := Lib.hid (fun k h1 h2 hf => by
    obtain ⟨v9, q1, q2⟩ := HS6.out.hu
    obtain ⟨D9, d1, -⟩ := HS6.out.hmap
    rcases hf with e | e | ⟨v', e1, e2⟩
    · have := om_lt d1; omega
    · have := q1.lt; omega
    · have e3 := (q1.below hb8 q1.lt).at_ 0 rfl
      rw [e3] at e1
      cases e1
      obtain ⟨_, cs, hc⟩ := own_row q2 e2
      have := hc.lt; omega)
  clear hb8 hro HF7 c4
  have hfew := HNM.out.few x hx
  generalize hm : (nx x).length = m at *
  have HM := Lib.hid hm
  clear hm
  go_wp2_with fail
  go_loopw [26] (fun i wr => ∃ (j : Nat) (K2 : List Nat), j ≤ m ∧ i = .int .i64 j ∧ Hid (PS w0 wr o bm bu bo bx bf bq mb (nextV fN g) (mayV fM bh) P K2 K2 ∧ PScan nx (fun y => qp (P.getD y 0)) K K2 x j ∧ (∀ y ∈ K2, y < n) ∧ PFr mb bu w8 wr)) (fun i _ => m - (intOf i).toNat)
  case atStart => exact ⟨0, K ++ [x], Nat.zero_le _, rfl, Lib.hid ⟨HS8.out, PScan.start HND.out HX.out, fun y hy => by
    rcases List.mem_append.1 hy with h | h
    · exact HKN.out y h
    · have : y = x := by simpa using h
      omega, PFr.refl _ _ _⟩⟩
  case round =>
    obtain ⟨j, K2, hj, rfl, HT⟩ := hrel
    by_cases hlt : j < m
    · have hjl : j < (nx x).length := by have := HM.out; omega
      obtain ⟨br, ofr, rfl, hbr, hcr⟩ := (IRow.of_own (l := nx x) (by rw [HM.out]; exact HRO.out)).at_ (i := j) hjl
      have hbr7 : w7.heap.size ≤ br := (own_row HRO.out (g := br) rfl).1
      have hcell : wr.cell? ⟨br, ofr + j, none⟩ = some (.int .i64 (nx x)[j]) := (World.cell?_of_block (w := w8) (a := ⟨br, ofr + j, none⟩) (HT.out.2.2.2.1.block br hbr (HNI.out br hbr7 hbr))).trans hcr
      obtain ⟨hz1, hz2⟩ := HNM.out.inside x hx _ (List.getElem_mem hjl)
      obtain ⟨z, hz⟩ : ∃ z : Nat, (nx x)[j] = (z : Int) := ⟨_, (Int.toNat_of_nonneg hz1).symm⟩
      have HZ := Lib.hid hz
      have HJL := Lib.hid hjl
      rw [hz] at hcell hz2
      have hzn : z < n := by omega
      have j1 : (0 : Int) ≤ (j : Int) := by omega
      have j2 : (j : Int) < (m : Int) := by omega
      have hkey : keyOf Try.prog 3 (.int .i64 (z : Int)) = some (.int .i64 (z : Int)) := keyOf_int_mk Try.underlying3 (WalkArith.wf_i64 (by omega))
      obtain ⟨D, hMp, hIP⟩ := HT.out.1.hmap
      obtain ⟨bz, oz, cz, hvz, -, -⟩ := HPn.out _ HT.out.1.low z hzn
      have HCL : Hid (∀ W, Below wr.heap.size wr W → W.cell? ⟨bm, 0, none⟩ = some (.map (some mb)) ∧ W.cell? ⟨bf, 0, none⟩ = some (.func (.func fM) #[] #[.pointer (some ⟨bh, 0, none⟩)]) ∧ W.cell? ⟨bo, 0, none⟩ = some (.pointer (some ⟨o, 0, none⟩)) ∧ W.cell? ⟨o, 1, none⟩ = some (.slice (some ⟨bz, oz, none⟩) n cz) ∧ W.cell? ⟨bz, oz + z, none⟩ = some (.int .i64 (P.getD z 0 : Nat)) ∧ (Instr.lookup 31 (.map (some mb)) (.int .i64 (z : Int)) false).run Try.prog W = .ok (.int .i64 (if z ∈ K2 then 1 else 0)) W) := Lib.hid (fun W hW => by
        have h1 := HT.out.1.below hW
        obtain ⟨b, off, c, e1, e2, e3⟩ := HPn.out W h1.low z hzn
        have e4 := e1.symm.trans hvz
        simp only [Value.slice.injEq, Option.some.injEq, Addr.mk.injEq, and_true, true_and] at e4
        obtain ⟨⟨rfl, rfl⟩, rfl⟩ := e4
        obtain ⟨c, hrun, hat, -⟩ := (om_keep hMp (hW.block _ (om_lt hMp))).lookup_int law Try.underlying31 Try.underlying3 (zeroI W) hkey
        have hc := hIP.at_ hat
        rw [hc] at hrun
        refine ⟨h1.hm.at_ 0 rfl, h1.hf.at_ 0 rfl, h1.ho.at_ 0 rfl, e2.trans (by rw [hvz]), e3, ?_⟩
        rw [hrun]
        simp only [mem_zs])
      have m1 : (0 : Int) ≤ (z : Int) := by omega
      clear hMp hIP hvz hkey hcr hbr hbr7 hz hz1
      by_cases hzK : z ∈ K2
      · rw [if_pos hzK] at HCL
        have HZK := Lib.hid hzK
        clear hzK
        go_wp2_with fail
        have hS : Below wr.heap.size wr wr.drew := (Below.refl _ wr).drew
        refine wp_region_heldG [] (fun _ W => Below wr.heap.size wr W) (by kernel_rfl) ?_
        change wpAnyG _ _ _ _ _ _ 15 _ _ wr.drew
        refine g_take (i := 0) rfl rfl (by kernel_rfl) (by kernel_rfl) (by kernel_rfl) (by kernel_rfl) (by kernel_rfl) (fun _ _ _ h => h) hS (fun L' W' hL hW => by obtain ⟨k0, k1, k2, k3, k4, k5⟩ := HCL.out _ hW; go_simp; rfl) ?_
        refine g_take (i := 1) rfl rfl (by kernel_rfl) (by kernel_rfl) (by kernel_rfl) (by kernel_rfl) (by kernel_rfl) (fun _ _ _ h => h) hS (fun L' W' hL hW => by go_simp; rfl) ?_
        refine g_take (i := 2) rfl rfl (by kernel_rfl) (by kernel_rfl) (by kernel_rfl) (by kernel_rfl) (by kernel_rfl) (fun _ _ _ h => h) hS (fun L' W' hL hW => by obtain ⟨k0, k1, k2, k3, k4, k5⟩ := HCL.out _ hW; go_simp; rfl) ?_
        refine g_take (i := 3) rfl rfl (by kernel_rfl) (by kernel_rfl) (by kernel_rfl) (by kernel_rfl) (by kernel_rfl) (fun _ _ _ h => h) hS (fun L' W' hL hW => by go_simp; rfl) ?_
        refine g_take (i := 4) rfl rfl (by kernel_rfl) (by kernel_rfl) (by kernel_rfl) (by kernel_rfl) (by kernel_rfl) (fun _ _ _ h => h) hS (fun L' W' hL hW => by go_simp; rfl) ?_
        refine g_skip (i := 5) rfl (by simp only [Region.wanted, yielded]; go_simp) (by kernel_rfl) (by kernel_rfl) (by kernel_rfl) (by kernel_rfl) (by kernel_rfl) (fun _ _ _ h => h) hS ?_
        refine g_skip (i := 6) rfl (by simp only [Region.wanted, yielded]; go_simp) (by kernel_rfl) (by kernel_rfl) (by kernel_rfl) (by kernel_rfl) (by kernel_rfl) (fun _ _ _ h => h) hS ?_
        refine g_skip (i := 7) rfl (by simp only [Region.wanted, yielded]; go_simp) (by kernel_rfl) (by kernel_rfl) (by kernel_rfl) (by kernel_rfl) (by kernel_rfl) (fun _ _ _ h => h) hS ?_
        refine g_skip (i := 8) rfl (by simp only [Region.wanted, yielded]; go_simp) (by kernel_rfl) (by kernel_rfl) (by kernel_rfl) (by kernel_rfl) (by kernel_rfl) (fun _ _ _ h => h) hS ?_
        refine g_skip (i := 9) rfl (by simp only [Region.wanted, yielded]; go_simp) (by kernel_rfl) (by kernel_rfl) (by kernel_rfl) (by kernel_rfl) (by kernel_rfl) (fun _ _ _ h => h) hS ?_
        refine g_skip (i := 10) rfl (by simp only [Region.wanted, yielded]; go_simp) (by kernel_rfl) (by kernel_rfl) (by kernel_rfl) (by kernel_rfl) (by kernel_rfl) (fun _ _ _ h => h) hS ?_
        refine g_skip (i := 11) rfl (by simp only [Region.wanted, yielded]; go_simp) (by kernel_rfl) (by kernel_rfl) (by kernel_rfl) (by kernel_rfl) (by kernel_rfl) (fun _ _ _ h => h) hS ?_
        refine g_skip (i := 12) rfl (by simp only [Region.wanted, yielded]; go_simp) (by kernel_rfl) (by kernel_rfl) (by kernel_rfl) (by kernel_rfl) (by kernel_rfl) (fun _ _ _ h => h) hS ?_
        refine g_skip (i := 13) rfl (by simp only [Region.wanted, yielded]; go_simp) (by kernel_rfl) (by kernel_rfl) (by kernel_rfl) (by kernel_rfl) (by kernel_rfl) (fun _ _ _ h => h) hS ?_
        refine g_take (i := 14) rfl rfl (by kernel_rfl) (by kernel_rfl) (by kernel_rfl) (by kernel_rfl) (by kernel_rfl) (fun _ _ _ h => h) hS (fun L' W' hL hW => by go_simp; rfl) ?_
        refine wpAnyG_done (by kernel_rfl) ?_ _
        have HN : Hid (PS w0 wr.drew o bm bu bo bx bf bq mb (nextV fN g) (mayV fM bh) P K2 K2 ∧ PScan nx (fun y => qp (P.getD y 0)) K K2 x (j + 1) ∧ (∀ y ∈ K2, y < n) ∧ PFr mb bu w8 wr.drew) := Lib.hid ⟨HT.out.1.below hS, HT.out.2.1.skip HJL.out HZ.out (.inl HZK.out), HT.out.2.2.1, HT.out.2.2.2.trans (PFr.below HT.out.1 hS)⟩
        clear hS HCL HT hcell
        go_simp
        go_wp2_with fail
        go_roundw
        case rel => exact ⟨j + 1, K2, by omega, by go_num, HN⟩
        case measure => simp [intOf]; omega
      · rw [if_neg hzK] at HCL
        have HZK := Lib.hid hzK
        clear hzK
        by_cases hq : qp (P.getD z 0) = true
        · go_wp2_with fail
          have hS : Below wr.heap.size wr wr.drew := (Below.refl _ wr).drew
          refine wp_region_heldG [] (fun _ W => Below wr.heap.size wr W) (by kernel_rfl) ?_
          change wpAnyG _ _ _ _ _ _ 15 _ _ wr.drew
          refine g_take (i := 0) rfl rfl (by kernel_rfl) (by kernel_rfl) (by kernel_rfl) (by kernel_rfl) (by kernel_rfl) (fun _ _ _ h => h) hS (fun L' W' hL hW => by obtain ⟨k0, k1, k2, k3, k4, k5⟩ := HCL.out _ hW; go_simp; rfl) ?_
          refine g_take (i := 1) rfl rfl (by kernel_rfl) (by kernel_rfl) (by kernel_rfl) (by kernel_rfl) (by kernel_rfl) (fun _ _ _ h => h) hS (fun L' W' hL hW => by go_simp; rfl) ?_
          refine g_take (i := 2) rfl rfl (by kernel_rfl) (by kernel_rfl) (by kernel_rfl) (by kernel_rfl) (by kernel_rfl) (fun _ _ _ h => h) hS (fun L' W' hL hW => by obtain ⟨k0, k1, k2, k3, k4, k5⟩ := HCL.out _ hW; go_simp; rfl) ?_
          refine g_take (i := 3) rfl rfl (by kernel_rfl) (by kernel_rfl) (by kernel_rfl) (by kernel_rfl) (by kernel_rfl) (fun _ _ _ h => h) hS (fun L' W' hL hW => by go_simp; rfl) ?_
          refine g_take (i := 4) rfl rfl (by kernel_rfl) (by kernel_rfl) (by kernel_rfl) (by kernel_rfl) (by kernel_rfl) (fun _ _ _ h => h) hS (fun L' W' hL hW => by go_simp; rfl) ?_
          refine g_takeG (i := 5) rfl (by simp only [Region.wanted, yielded]; go_simp) (by kernel_rfl) (by kernel_rfl) (by kernel_rfl) (by kernel_rfl) (by kernel_rfl) (fun _ _ _ h => h) hS (fun L' W' hL hW => by obtain ⟨k0, k1, k2, k3, k4, k5⟩ := HCL.out _ hW; go_simp; rfl) ?_
          refine g_takeG (i := 6) rfl (by simp only [Region.wanted, yielded]; go_simp) (by kernel_rfl) (by kernel_rfl) (by kernel_rfl) (by kernel_rfl) (by kernel_rfl) (fun _ _ _ h => h) hS (fun L' W' hL hW => by obtain ⟨k0, k1, k2, k3, k4, k5⟩ := HCL.out _ hW; go_simp; rfl) ?_
          refine g_takeG (i := 7) rfl (by simp only [Region.wanted, yielded]; go_simp) (by kernel_rfl) (by kernel_rfl) (by kernel_rfl) (by kernel_rfl) (by kernel_rfl) (fun _ _ _ h => h) hS (fun L' W' hL hW => by go_simp; rfl) ?_
          refine g_takeG (i := 8) rfl (by simp only [Region.wanted, yielded]; go_simp) (by kernel_rfl) (by kernel_rfl) (by kernel_rfl) (by kernel_rfl) (by kernel_rfl) (fun _ _ _ h => h) hS (fun L' W' hL hW => by go_simp; rfl) ?_
          refine g_takeG (i := 9) rfl (by simp only [Region.wanted, yielded]; go_simp) (by kernel_rfl) (by kernel_rfl) (by kernel_rfl) (by kernel_rfl) (by kernel_rfl) (fun _ _ _ h => h) hS (fun L' W' hL hW => by obtain ⟨k0, k1, k2, k3, k4, k5⟩ := HCL.out _ hW; go_simp; rfl) ?_
          refine g_takeG (i := 10) rfl (by simp only [Region.wanted, yielded]; go_simp) (by kernel_rfl) (by kernel_rfl) (by kernel_rfl) (by kernel_rfl) (by kernel_rfl) (fun _ _ _ h => h) hS (fun L' W' hL hW => by go_simp; rfl) ?_
          refine g_takeG (i := 11) rfl (by simp only [Region.wanted, yielded]; go_simp) (by kernel_rfl) (by kernel_rfl) (by kernel_rfl) (by kernel_rfl) (by kernel_rfl) (fun _ _ _ h => h) hS (fun L' W' hL hW => by go_simp; rfl) ?_
          refine g_takeG (i := 12) rfl (by simp only [Region.wanted, yielded]; go_simp) (by kernel_rfl) (by kernel_rfl) (by kernel_rfl) (by kernel_rfl) (by kernel_rfl) (fun _ _ _ h => h) hS (fun L' W' hL hW => by obtain ⟨k0, k1, k2, k3, k4, k5⟩ := HCL.out _ hW; go_simp; rfl) ?_
          refine g_one (i := 13) rfl (by simp only [Region.wanted, yielded]; go_simp) (by kernel_rfl) fun K' hK => ?_
          go_simp
          refine Calls.mono (HNM.out.may wr.drew HT.out.1.low.drew (P.getD z 0)) ?_
          rintro e w' ⟨rfl, rfl⟩
          rw [hq]
          refine hK _ _ hS ?_
          clear hK K'
          refine g_take (i := 14) rfl rfl (by kernel_rfl) (by kernel_rfl) (by kernel_rfl) (by kernel_rfl) (by kernel_rfl) (fun _ _ _ h => h) hS (fun L' W' hL hW => by go_simp; rfl) ?_
          refine wpAnyG_done (by kernel_rfl) ?_ _
          have HPW := Lib.hid (HT.out.1.below hS)
          have HFW := Lib.hid (HT.out.2.2.2.trans (PFr.below HT.out.1 hS))
          have c6 : wr.drew.cell? ⟨bq, 0, none⟩ = some (fromV bm bu bo bx bf bq) := HPW.out.hq.at_ 0 rfl
          unfold fromV at c6
          clear hS HCL hcell
          go_simp
          go_wp2_with fail
          refine Calls.mono (HG.out K2 _ z HPW.out hzn HZK.out HT.out.2.1.nodup HT.out.2.2.1 (by
            obtain ⟨t, e⟩ := HT.out.2.1.pre
            have := congrArg List.length e
            rw [List.length_append, List.length_cons] at this
            omega)) ?_
          rintro e w9 ⟨K3, rfl, q1, q2, q3, q4⟩
          have HN : Hid (PS w0 w9 o bm bu bo bx bf bq mb (nextV fN g) (mayV fM bh) P K3 K3 ∧ PScan nx (fun y => qp (P.getD y 0)) K K3 x (j + 1) ∧ (∀ y ∈ K3, y < n) ∧ PFr mb bu w8 w9) := Lib.hid ⟨q1, HT.out.2.1.go HJL.out HZ.out hq q2, q3, HFW.out.trans q4⟩
          clear q1 q2 q3 q4 HT HPW HFW c6 hq
          go_wp2_with fail
          go_roundw
          case rel => exact ⟨j + 1, K3, by omega, by go_num, HN⟩
          case measure => simp [intOf]; omega
        · have hq : qp (P.getD z 0) = false := by simpa using hq
          go_wp2_with fail
          have hS : Below wr.heap.size wr wr.drew := (Below.refl _ wr).drew
          refine wp_region_heldG [] (fun _ W => Below wr.heap.size wr W) (by kernel_rfl) ?_
          change wpAnyG _ _ _ _ _ _ 15 _ _ wr.drew
          refine g_take (i := 0) rfl rfl (by kernel_rfl) (by kernel_rfl) (by kernel_rfl) (by kernel_rfl) (by kernel_rfl) (fun _ _ _ h => h) hS (fun L' W' hL hW => by obtain ⟨k0, k1, k2, k3, k4, k5⟩ := HCL.out _ hW; go_simp; rfl) ?_
          refine g_take (i := 1) rfl rfl (by kernel_rfl) (by kernel_rfl) (by kernel_rfl) (by kernel_rfl) (by kernel_rfl) (fun _ _ _ h => h) hS (fun L' W' hL hW => by go_simp; rfl) ?_
          refine g_take (i := 2) rfl rfl (by kernel_rfl) (by kernel_rfl) (by kernel_rfl) (by kernel_rfl) (by kernel_rfl) (fun _ _ _ h => h) hS (fun L' W' hL hW => by obtain ⟨k0, k1, k2, k3, k4, k5⟩ := HCL.out _ hW; go_simp; rfl) ?_
          refine g_take (i := 3) rfl rfl (by kernel_rfl) (by kernel_rfl) (by kernel_rfl) (by kernel_rfl) (by kernel_rfl) (fun _ _ _ h => h) hS (fun L' W' hL hW => by go_simp; rfl) ?_
          refine g_take (i := 4) rfl rfl (by kernel_rfl) (by kernel_rfl) (by kernel_rfl) (by kernel_rfl) (by kernel_rfl) (fun _ _ _ h => h) hS (fun L' W' hL hW => by go_simp; rfl) ?_
          refine g_takeG (i := 5) rfl (by simp only [Region.wanted, yielded]; go_simp) (by kernel_rfl) (by kernel_rfl) (by kernel_rfl) (by kernel_rfl) (by kernel_rfl) (fun _ _ _ h => h) hS (fun L' W' hL hW => by obtain ⟨k0, k1, k2, k3, k4, k5⟩ := HCL.out _ hW; go_simp; rfl) ?_
          refine g_takeG (i := 6) rfl (by simp only [Region.wanted, yielded]; go_simp) (by kernel_rfl) (by kernel_rfl) (by kernel_rfl) (by kernel_rfl) (by kernel_rfl) (fun _ _ _ h => h) hS (fun L' W' hL hW => by obtain ⟨k0, k1, k2, k3, k4, k5⟩ := HCL.out _ hW; go_simp; rfl) ?_
          refine g_takeG (i := 7) rfl (by simp only [Region.wanted, yielded]; go_simp) (by kernel_rfl) (by kernel_rfl) (by kernel_rfl) (by kernel_rfl) (by kernel_rfl) (fun _ _ _ h => h) hS (fun L' W' hL hW => by go_simp; rfl) ?_
          refine g_takeG (i := 8) rfl (by simp only [Region.wanted, yielded]; go_simp) (by kernel_rfl) (by kernel_rfl) (by kernel_rfl) (by kernel_rfl) (by kernel_rfl) (fun _ _ _ h => h) hS (fun L' W' hL hW => by go_simp; rfl) ?_
          refine g_takeG (i := 9) rfl (by simp only [Region.wanted, yielded]; go_simp) (by kernel_rfl) (by kernel_rfl) (by kernel_rfl) (by kernel_rfl) (by kernel_rfl) (fun _ _ _ h => h) hS (fun L' W' hL hW => by obtain ⟨k0, k1, k2, k3, k4, k5⟩ := HCL.out _ hW; go_simp; rfl) ?_
          refine g_takeG (i := 10) rfl (by simp only [Region.wanted, yielded]; go_simp) (by kernel_rfl) (by kernel_rfl) (by kernel_rfl) (by kernel_rfl) (by kernel_rfl) (fun _ _ _ h => h) hS (fun L' W' hL hW => by go_simp; rfl) ?_
          refine g_takeG (i := 11) rfl (by simp only [Region.wanted, yielded]; go_simp) (by kernel_rfl) (by kernel_rfl) (by kernel_rfl) (by kernel_rfl) (by kernel_rfl) (fun _ _ _ h => h) hS (fun L' W' hL hW => by go_simp; rfl) ?_
          refine g_takeG (i := 12) rfl (by simp only [Region.wanted, yielded]; go_simp) (by kernel_rfl) (by kernel_rfl) (by kernel_rfl) (by kernel_rfl) (by kernel_rfl) (fun _ _ _ h => h) hS (fun L' W' hL hW => by obtain ⟨k0, k1, k2, k3, k4, k5⟩ := HCL.out _ hW; go_simp; rfl) ?_
          refine g_one (i := 13) rfl (by simp only [Region.wanted, yielded]; go_simp) (by kernel_rfl) fun K' hK => ?_
          go_simp
          refine Calls.mono (HNM.out.may wr.drew HT.out.1.low.drew (P.getD z 0)) ?_
          rintro e w' ⟨rfl, rfl⟩
          rw [hq]
          refine hK _ _ hS ?_
          clear hK K'
          refine g_take (i := 14) rfl rfl (by kernel_rfl) (by kernel_rfl) (by kernel_rfl) (by kernel_rfl) (by kernel_rfl) (fun _ _ _ h => h) hS (fun L' W' hL hW => by go_simp; rfl) ?_
          refine wpAnyG_done (by kernel_rfl) ?_ _
          have HN : Hid (PS w0 wr.drew o bm bu bo bx bf bq mb (nextV fN g) (mayV fM bh) P K2 K2 ∧ PScan nx (fun y => qp (P.getD y 0)) K K2 x (j + 1) ∧ (∀ y ∈ K2, y < n) ∧ PFr mb bu w8 wr.drew) := Lib.hid ⟨HT.out.1.below hS, HT.out.2.1.skip HJL.out HZ.out (.inr hq), HT.out.2.2.1, HT.out.2.2.2.trans (PFr.below HT.out.1 hS)⟩
          clear hS HCL HT hcell hq
          go_simp
          go_wp2_with fail
          go_roundw
          case rel => exact ⟨j + 1, K2, by omega, by go_num, HN⟩
          case measure => simp [intOf]; omega
    · have HFIN : Hid (FromOut w0 W o bm bu bo bx bf bq mb n (nextV fN g) (mayV fM bh) P K nx (fun y => qp (P.getD y 0)) x (.returned (.tuple #[])) wr) := Lib.hid (by
        have e : j = (nx x).length := by have := HM.out; omega
        have h := HT.out.2.1
        rw [e] at h
        exact ⟨K2, rfl, HT.out.1, h.end_, HT.out.2.2.1, HF8.out.trans HT.out.2.2.2⟩)
      clear HT
      go_wp2_with fail
      go_end0
      exact HFIN.out
end Go.Proofs.Ytelplccbcbegkaa.OrW
