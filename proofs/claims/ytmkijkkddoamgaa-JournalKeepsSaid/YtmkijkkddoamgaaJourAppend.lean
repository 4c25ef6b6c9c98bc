/-
  The walks of Append, Free, Size, Head.
-/
import Derived.Test.YtmkijkkddoamgaaJourTurn
namespace Go.Proofs.Ytmkijkkddoamgaa.Jo
set_option linter.unusedVariables false
open Go Go.RowKit Go.Shelf Go.Proofs Go.Proofs.Ytmkijkkddoamgaa Go.Proofs.Ytmkijkkddoamgaa.Wd Go.Proofs.Ytmkijkkddoamgaa.Dk Go.Proofs.Ytmkijkkddoamgaa.Hd Go.Proofs.Ytmkijkkddoamgaa.HdW Go.Proofs.Ytmkijkkddoamgaa.BatW
open Go.Proofs.Ytmkijkkddoamgaa.Bat (B)

/-- A journal that was opened: its disk, its block, its head. -/
structure JAt (w : World) (base : Nat) (F : Nat → Prop) (g jb : Nat) (s : DS) (y : H) : Prop where
  at_ : At w base F g s
  bj : BF w F jb 48 (jcells g y)
  wf : Wf y
  lv : y.live < 2
section
variable {w : World} {base : Nat} {F : Nat → Prop} {g jb : Nat} {s : DS} {y : H}
theorem none_no (h : BF w F jb 48 (jcells g y)) : Calls Try.prog 33 #[.pointer (some ⟨jb, 0, none⟩)] w fun e w' => e = .returned (.bool false) ∧ w = w' := by
  have j0 := Blk.at_ h.1 0 (v := .pointer (some ⟨g, 0, none⟩)) rfl
  clear h
  go_enter Try.func33, Try.ntmps33
  go_wp2_with fail
  go_ret
  exact ⟨rfl, rfl⟩
/-- run with one put. -/
theorem put_one (h : At w base F g s) (bj : BF w F jb 48 (jcells g y)) {sb B3 B4 B5 : Nat} {i : Int} {A : Option Addr} {n c : Nat} {b : List UInt8} (hn : n = b.length) (hnc : n ≤ c) (hcm : c ≤ maxLen) (hI : Bytes w w.heap.size A b) (hAF : b ≠ [] → ∀ x o, A = some ⟨x, o, none⟩ → ¬ F x)
    (p3 : BF w F B3 27 #[ptr jb]) (p4 : BF w F B4 3 #[.int .i64 i]) (p5 : BF w F B5 23 #[.slice A n c])
    (qs : Blk w sb 51 #[.func (.func 55) #[] #[ptr B3, ptr B4, ptr B5]]) :
    Calls Try.prog 34 #[.slice (some ⟨sb, 0, none⟩) 1 1] w fun e w' => e = .returned (.int .i64 ((putJ s i b).1 : Nat)) ∧ Dk.Next w base F g (putJ s i b).2 w' := by
  obtain ⟨⟨d, s1⟩, hr⟩ : ∃ r, putJ s i b = r := ⟨_, rfl⟩
  have hR := run_any 1 sb (by omega) (fun _ => 55) (fun _ => #[ptr B3, ptr B4, ptr B5])
      (fun k W => (k = 0 → W = w) ∧ (k = 1 → d = 0 ∧ Dk.Next w base F g s1 W))
      (fun k W => k = d ∧ Dk.Next w base F g s1 W)
      (fun k W hk hI => by
        obtain rfl : k = 0 := by omega
        rw [hI.1 rfl]; exact Blk.at_ qs 0 rfl)
      (fun k hk => enters_of Try.func55 (by kernel_rfl) rfl)
      (fun k W hk hJ => by
        obtain rfl : k = 0 := by omega
        obtain rfl := hJ.1 rfl
        have hS := put_runs h bj hn hnc hcm hI hAF p3 p4 p5
        rw [hr] at hS
        refine Calls.mono hS ?_
        rintro e W' ⟨rfl, hN⟩
        by_cases h0 : d = 0
        · subst h0
          exact .inl ⟨rfl, ⟨fun e => by simp at e, fun _ => ⟨rfl, hN⟩⟩⟩
        · exact .inr ⟨d, h0, rfl, rfl, hN⟩)
      w ⟨fun _ => rfl, fun e => by simp at e⟩
  rw [hr]
  refine Calls.mono hR ?_
  rintro e w' (⟨rfl, hJ⟩ | ⟨k, hk, rfl, hc, hN⟩)
  · obtain ⟨h0, hN⟩ := hJ.2 rfl
    subst h0
    exact ⟨rfl, hN⟩
  · subst hc
    exact ⟨rfl, hN⟩
theorem own_far_of {w2 : World} {A : Option Addr} {m c : Nat} {b : List UInt8} (ho : w2.ownsRow w.heap.size 5 1 (.slice A m c) m (bs b)) (hF : ∀ k, F k → k < w.heap.size) :
    m = b.length ∧ Bytes w2 w2.heap.size A b ∧ (b ≠ [] → ∀ x o, A = some ⟨x, o, none⟩ → ¬ F x) := by
  obtain ⟨A', c', e, h1, h2, h3⟩ := own_bytes ho
  cases e
  refine ⟨h2, h3, fun hb x o hA hx => ?_⟩
  have hr := own_rowz ho
  obtain ⟨b', off, e, hz, -⟩ := hr 0 (by rw [bs_length]; exact List.length_pos_iff.2 hb)
  rw [hA] at e
  cases e
  have := hF _ hx
  have := hz.1
  omega
set_option maxRecDepth 100000 in
set_option maxHeartbeats 1000000 in
theorem jappend_any (h : JAt w base F g jb s y) (A : Option Addr) (n c : Nat) (rows : B) (hn : n = rows.length) (hnm : n ≤ maxLen) (hI : BRows w w.heap.size A rows) :
    Calls Try.prog 11 #[.pointer (some ⟨jb, 0, none⟩), .slice A n c] w fun e w' => e = .returned (.int .i64 ((appendJ s y rows).1 : Nat)) ∧ Dk.Next w base F g (appendJ s y rows).2 w' := by
  have HN0 := Lib.hid (none_no h.bj)
  have HP := Lib.hid (bput_any A n c rows hn hnm w hI)
  obtain ⟨a, e, l⟩ := y
  have lv : l < 2 := h.lv
  have HH := Lib.hid h
  obtain ⟨b, hb⟩ : ∃ b, b = Bat.put rows := ⟨_, rfl⟩
  obtain ⟨er, her⟩ : ∃ x, x = Bat.wrong rows := ⟨_, rfl⟩
  obtain ⟨m, hm⟩ : ∃ m, m = b.length := ⟨_, rfl⟩
  have HV : Hid (appendJ s ⟨a, e, l⟩ rows = if er ≠ 0 then (er, s) else putJ s (l : Nat) b) := Lib.hid (by unfold appendJ; rw [← her, ← hb])
  unfold PutOut at HP
  rw [← hb, ← her, ← hm] at HP
  have HM := Lib.hid hm
  clear hb her hm h hn hnm hI
  go_enter Try.func11, Try.ntmps11
  go_wp2_with fail
  refine Calls.mono HN0.out ?_
  rintro e1 w1 ⟨rfl, rfl⟩
  go_wp2_with fail
  refine Calls.mono HP.out ?_
  rintro e2 w2 ⟨A2, c2, rfl, hB2, hl2, hm2, hown⟩
  have HB2 := Lib.hid hB2
  have HOW := Lib.hid hown
  clear HP HN0 hB2 hown
  by_cases h0 : er = 0
  · subst h0
    have HR : Hid (appendJ s ⟨a, e, l⟩ rows = putJ s (l : Nat) b) := Lib.hid (by rw [HV.out, if_neg (by simp)])
    have j3 := Blk.at_ (HH.out.bj.1.below HB2.out HH.out.bj.1.lt) 3 (v := .int .u8 (l : Nat)) rfl
    have t1 : wrap64 (l : Int) = (l : Int) := IntWalk.wrap64_in _ (by omega)
    clear HV
    go_wp2_with fail
    refine Calls.mono (put_makes jb (l : Nat) A2 m c2 w2) ?_
    rintro e3 w3 ⟨rfl, hB3, sz3, p3, p4, p5⟩
    have HB3 := Lib.hid hB3
    have HP3 := Lib.hid (And.intro p3 (And.intro p4 p5))
    have HSZ := Lib.hid sz3
    clear hB3 p3 p4 p5 sz3 j3 t1
    go_wp2_with fail
    have hF : ∀ k, F k → k < w.heap.size := fun k hk => (HH.out.at_.lt hk).2
    obtain ⟨hmb, hI2, hAF⟩ := own_far_of HOW.out hF
    have qs := Blk.new_ w3 51 #[.func (.func 55) #[] #[ptr w2.heap.size, ptr (w2.heap.size + 1), ptr (w2.heap.size + 1 + 1)]] rfl
    have hB4 := (Below.refl w3.heap.size w3).alloc (Nat.le_refl _) (.cells #[.func (.func 55) #[] #[ptr w2.heap.size, ptr (w2.heap.size + 1), ptr (w2.heap.size + 1 + 1)]] 51)
    have hB24 := HB3.out.trans (hB4.mono HB3.out.size)
    have hB04 := HB2.out.trans (hB24.mono HB2.out.size)
    have hs2 := HB2.out.size
    have hR := put_one (HH.out.at_.below hB04) (HH.out.bj.next (Fr.of_below hB04 F) (F' := F) fun _ h => .inl h) (i := (l : Nat)) hmb hl2 hm2 (hI2.grow hB24) hAF
      ⟨HP3.out.1.below hB4 HP3.out.1.lt, fun e => by have := hF _ e; omega⟩ ⟨HP3.out.2.1.below hB4 HP3.out.2.1.lt, fun e => by have := hF _ e; omega⟩ ⟨HP3.out.2.2.below hB4 HP3.out.2.2.lt, fun e => by have := hF _ e; omega⟩ qs
    refine Calls.mono hR ?_
    rintro e5 w5 ⟨rfl, hN⟩
    have HN : Hid (Dk.Next w base F g (putJ s (l : Nat) b).2 w5) := Lib.hid (Next.trans (s' := s) (Fr.of_below hB04 F) (fun _ h => .inl h) hN)
    obtain ⟨⟨d, s9⟩, hd⟩ : ∃ x, putJ s (l : Nat) b = x := ⟨_, rfl⟩
    rw [hd] at HR HN ⊢
    clear hd hR hN qs hB4 hB24 hB04 hs2 hF hmb hI2 hAF
    dsimp only
    go_wp2_with fail
    go_ret
    rw [HR.out]
    exact ⟨rfl, HN.out⟩
  · have u1 : ((er : Int) != 0) = true := by rw [bne_iff_ne]; omega
    have u2 : ¬ (er : Int) = 0 := by omega
    have HR : Hid (appendJ s ⟨a, e, l⟩ rows = (er, s)) := Lib.hid (by rw [HV.out, if_pos h0])
    clear HV h0
    go_wp2_with fail
    go_ret
    rw [HR.out]
    exact ⟨rfl, F, HH.out.at_.below HB2.out, Fr.of_below HB2.out F, fun _ h => .inl h⟩
theorem jfree_any (h : JAt w base F g jb s y) : Calls Try.prog 21 #[.pointer (some ⟨jb, 0, none⟩)] w fun e w' => e = .returned (.int .i64 (free s : Nat)) ∧ Below w.heap.size w w' := by
  have HN0 := Lib.hid (none_no h.bj)
  have j0 := Blk.at_ h.bj.1 0 (v := .pointer (some ⟨g, 0, none⟩)) rfl
  have HF := Lib.hid (free_any h.at_)
  clear h
  go_enter Try.func21, Try.ntmps21
  go_wp2_with fail
  refine Calls.mono HN0.out ?_
  rintro e1 w1 ⟨rfl, rfl⟩
  go_wp2_with fail
  refine Calls.mono HF.out ?_
  rintro e2 w2 ⟨rfl, hB⟩
  have HB := Lib.hid hB
  clear hB
  go_wp2_with fail
  go_ret
  exact ⟨rfl, HB.out⟩
set_option maxRecDepth 100000 in
set_option maxHeartbeats 1000000 in
theorem jsize_any (h : JAt w base F g jb s y) : Calls Try.prog 13 #[.pointer (some ⟨jb, 0, none⟩)] w fun e w' => e = .returned (.int .i64 ((rd s (y.live : Nat)).length : Nat)) ∧ Below w.heap.size w w' := by
  have HN0 := Lib.hid (none_no h.bj)
  obtain ⟨a, e, l⟩ := y
  have lv : l < 2 := h.lv
  have j0 := Blk.at_ h.bj.1 0 (v := .pointer (some ⟨g, 0, none⟩)) rfl
  have j3 := Blk.at_ h.bj.1 3 (v := .int .u8 (l : Nat)) rfl
  have t1 : IntKind.i64.wrap (l : Int) = (l : Int) := IntWalk.i64_in _ (by omega)
  have HRD := Lib.hid (read_any h.at_.drew (l : Nat))
  have hlt : Hid (jb < w.heap.size) := Lib.hid h.bj.1.lt
  obtain ⟨b, hb⟩ : ∃ b, b = rd s (l : Nat) := ⟨_, rfl⟩
  obtain ⟨m, hm⟩ : ∃ m, m = b.length := ⟨_, rfl⟩
  show Calls _ _ _ _ (fun e w' => e = .returned (.int .i64 ((rd s (l : Nat)).length : Nat)) ∧ Below w.heap.size w w')
  rw [← hb] at HRD ⊢
  rw [← hm]
  have HM := Lib.hid hm
  clear h hb hm lv
  go_enter Try.func13, Try.ntmps13
  go_wp2_with fail
  refine Calls.mono HN0.out ?_
  rintro e1 w1 ⟨rfl, rfl⟩
  clear HN0
  go_upto_region 3 with fail
  refine wp_region_heldG [10] (fun st W => W.cell? ⟨jb, 0, none⟩ = some (.pointer (some ⟨g, 0, none⟩)) ∧ W.cell? ⟨jb, 3, none⟩ = some (.int .u8 (l : Nat))) (by kernel_rfl) ?_
  change wpAnyG _ _ _ _ _ _ 13 _ _ (World.drew _)
  have hS : w.drew.cell? ⟨jb, 0, none⟩ = some (.pointer (some ⟨g, 0, none⟩)) ∧ w.drew.cell? ⟨jb, 3, none⟩ = some (.int .u8 (l : Nat)) := ⟨j0, j3⟩
  refine g_take (i := 0) rfl rfl (by kernel_rfl) (by kernel_rfl) (by kernel_rfl) (by kernel_rfl) (by kernel_rfl) (fun _ _ _ h => h) hS (fun L W hL hW => by obtain ⟨e3, e4⟩ := hW; go_simp; rfl) ?_
  refine g_take (i := 1) rfl rfl (by kernel_rfl) (by kernel_rfl) (by kernel_rfl) (by kernel_rfl) (by kernel_rfl) (fun _ _ _ h => h) hS (fun L W hL hW => by obtain ⟨e3, e4⟩ := hW; go_simp; rfl) ?_
  refine g_take (i := 2) rfl rfl (by kernel_rfl) (by kernel_rfl) (by kernel_rfl) (by kernel_rfl) (by kernel_rfl) (fun _ _ _ h => h) hS (fun L W hL hW => by obtain ⟨e3, e4⟩ := hW; go_simp; rfl) ?_
  refine g_take (i := 3) rfl rfl (by kernel_rfl) (by kernel_rfl) (by kernel_rfl) (by kernel_rfl) (by kernel_rfl) (fun _ _ _ h => h) hS (fun L W hL hW => by obtain ⟨e3, e4⟩ := hW; go_simp; rfl) ?_
  refine g_take (i := 4) rfl rfl (by kernel_rfl) (by kernel_rfl) (by kernel_rfl) (by kernel_rfl) (by kernel_rfl) (fun _ _ _ h => h) hS (fun L W hL hW => by obtain ⟨e3, e4⟩ := hW; go_simp; rfl) ?_
  refine g_take (i := 5) rfl rfl (by kernel_rfl) (by kernel_rfl) (by kernel_rfl) (by kernel_rfl) (by kernel_rfl) (fun _ _ _ h => h) hS (fun L W hL hW => by obtain ⟨e3, e4⟩ := hW; go_simp; rfl) ?_
  refine g_take (i := 6) rfl rfl (by kernel_rfl) (by kernel_rfl) (by kernel_rfl) (by kernel_rfl) (by kernel_rfl) (fun _ _ _ h => h) hS (fun L W hL hW => by obtain ⟨e3, e4⟩ := hW; go_simp; rfl) ?_
  refine g_take (i := 7) rfl rfl (by kernel_rfl) (by kernel_rfl) (by kernel_rfl) (by kernel_rfl) (by kernel_rfl) (fun _ _ _ h => h) hS (fun L W hL hW => by obtain ⟨e3, e4⟩ := hW; go_simp; rfl) ?_
  refine g_take (i := 8) rfl rfl (by kernel_rfl) (by kernel_rfl) (by kernel_rfl) (by kernel_rfl) (by kernel_rfl) (fun _ _ _ h => h) hS (fun L W hL hW => by obtain ⟨e3, e4⟩ := hW; go_simp; rfl) ?_
  refine g_take (i := 9) rfl rfl (by kernel_rfl) (by kernel_rfl) (by kernel_rfl) (by kernel_rfl) (by kernel_rfl) (fun _ _ _ h => h) hS (fun L W hL hW => by obtain ⟨e3, e4⟩ := hW; go_simp; rfl) ?_
  refine g_one (i := 10) rfl rfl (by kernel_rfl) fun K hK => ?_
  go_simp
  refine Calls.mono HRD.out ?_
  rintro e w1 ⟨v1, rfl, hown, hb1⟩
  obtain ⟨A, c, rfl, -, -, -⟩ := own_bytes hown
  clear hown
  rw [← HM.out]
  have hS1 : w1.cell? ⟨jb, 0, none⟩ = some (.pointer (some ⟨g, 0, none⟩)) ∧ w1.cell? ⟨jb, 3, none⟩ = some (.int .u8 (l : Nat)) := ⟨(hb1.cell (p := ⟨jb, 0, none⟩) hlt.out).trans j0, (hb1.cell (p := ⟨jb, 3, none⟩) hlt.out).trans j3⟩
  have HB := Lib.hid hb1
  go_simp
  refine hK _ _ hS1 ?_
  clear hK K
  refine g_take (i := 11) rfl rfl (by kernel_rfl) (by kernel_rfl) (by kernel_rfl) (by kernel_rfl) (by kernel_rfl) (fun _ _ _ h => h) hS1 (fun L W hL hW => by go_simp; rfl) ?_
  refine g_take (i := 12) rfl rfl (by kernel_rfl) (by kernel_rfl) (by kernel_rfl) (by kernel_rfl) (by kernel_rfl) (fun _ _ _ h => h) hS1 (fun L W hL hW => by go_simp; rfl) ?_
  refine wpAnyG_done (by kernel_rfl) ?_ _
  clear hS hS1 j0 j3 hb1
  go_wp2_with fail
  go_ret
  exact ⟨rfl, ((Below.refl w.heap.size w).drew).trans HB.out⟩
theorem results_cell_row1 {P : Program} {fn : Func} {p : Tmp} {ty : TypeId} (h : fn.results = #[.cell p ty]) (tmps : Array Value) (w : World) (g : Nat) (te : TypeId) (cs : Array Value) (fr : Nat × Nat) (d : TypeDesc)
    (hp : tmps.getD p undef = .pointer (some ⟨g, 0, none⟩)) (hg : w.heap[g]? = some (.cells cs te fr))
    (hu : P.underlying ty = some d) (hd : (match d with | .struct _ | .array _ _ => true | _ => false) = true) (hi : (P.info? ty).map (·.size) = some cs.size) :
    (results fn tmps).run P w = .ok (.agg cs) w := by
  have hp' : tmps[p]?.getD undef = .pointer (some ⟨g, 0, none⟩) := by simpa using hp
  simp [results, h, hp', asAddr, run_loadVar_row w g te ty cs fr d hg hu hd hi]
theorem jhead_any (h : JAt w base F g jb s y) : Calls Try.prog 12 #[.pointer (some ⟨jb, 0, none⟩)] w fun e w' => e = .returned (.agg (hv y)) ∧ Below w.heap.size w w' := by
  obtain ⟨a, e, l⟩ := y
  simp only [hv]
  have HH := Lib.hid h
  have hB := (Below.refl w.heap.size w).alloc (Nat.le_refl _) (.cells #[.int .u64 0, .int .u64 0, .int .u8 0] 35)
  have qz := Blk.new_ w 35 #[.int .u64 0, .int .u64 0, .int .u8 0] rfl
  have HN0 := Lib.hid (none_no (h.bj.next (Fr.of_below hB F) (F' := F) fun _ h => .inl h))
  have bj := h.bj.1.below hB h.bj.1.lt
  clear h
  go_enter Try.func12, Try.ntmps12
  go_wp2_with fail
  refine Calls.mono HN0.out ?_
  rintro e1 w1 ⟨rfl, rfl⟩
  clear HN0
  generalize w.alloc (.cells #[.int .u64 0, .int .u64 0, .int .u8 0] 35) = w1 at *
  have j0 := Blk.at_ bj 0 (v := .pointer (some ⟨g, 0, none⟩)) rfl
  have j1 := Blk.at_ bj 1 (v := .int .u64 (a : Nat)) rfl
  have j2 := Blk.at_ bj 2 (v := .int .u64 (e : Nat)) rfl
  have j3 := Blk.at_ bj 3 (v := .int .u8 (l : Nat)) rfl
  have z0 := Blk.at_ qz 0 (v := .int .u64 0) rfl
  have z1 := Blk.at_ qz 1 (v := .int .u64 0) rfl
  have z2 := Blk.at_ qz 2 (v := .int .u8 0) rfl
  have zf := qz.frozen
  go_wp2_with fail
  have q9 := set3 (y0 := .int .u64 (a : Nat)) (y1 := .int .u64 (e : Nat)) (y2 := .int .u8 (l : Nat)) qz
  refine bodyPost_ret (results_cell_row1 rfl _ _ w.heap.size 35 #[.int .u64 (a : Nat), .int .u64 (e : Nat), .int .u8 (l : Nat)] (0, 0) _ rfl q9 Try.underlying35 rfl (by kernel_rfl)) rfl ?_
  exact ⟨rfl, ((hB.setCell (p := ⟨w.heap.size, 0, none⟩) (Nat.le_refl _) _).setCell (p := ⟨w.heap.size, 1, none⟩) (Nat.le_refl _) _).setCell (p := ⟨w.heap.size, 2, none⟩) (Nat.le_refl _) _⟩
end
end Go.Proofs.Ytmkijkkddoamgaa.Jo
