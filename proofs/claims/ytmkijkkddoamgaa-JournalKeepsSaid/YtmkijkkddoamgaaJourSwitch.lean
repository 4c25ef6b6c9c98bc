/-
  The walk of Switch.
-/
import Derived.Test.YtmkijkkddoamgaaJourAppend
namespace Go.Proofs.Ytmkijkkddoamgaa.Jo
set_option linter.unusedVariables false
open Go Go.RowKit Go.Shelf Go.Proofs Go.Proofs.Ytmkijkkddoamgaa Go.Proofs.Ytmkijkkddoamgaa.Wd Go.Proofs.Ytmkijkkddoamgaa.Dk Go.Proofs.Ytmkijkkddoamgaa.Hd Go.Proofs.Ytmkijkkddoamgaa.HdW Go.Proofs.Ytmkijkkddoamgaa.BatW
open Go.Proofs.Ytmkijkkddoamgaa.Bat (B)
section
variable {w W W' : World} {base : Nat} {F F' : Nat → Prop} {g jb : Nat} {s s' : DS} {x : DS × H} {y : H}
theorem BF.atJ {b : Nat} {t : TypeId} {cs : Array Value} (q : BF w F b t cs) (ht : t ≠ 48) (qj : Blk w jb 48 (jcells g y)) (hf : Fr (fun k => F k ∨ k = jb) w W) (hs : ∀ k, F' k → F k ∨ w.heap.size ≤ k) : BF W F' b t cs :=
  ⟨q.1.fr hf fun e => e.elim q.2 (Blk.ne_ q.1 qj ht), out_of q.1.lt q.2 hs⟩
theorem SavedJ.of (bj : BF w F jb 48 (jcells g y)) (h : Dk.Next w base F g s W) : SavedJ w base F g jb (s, y) W := by
  obtain ⟨F', h1, h2, h3⟩ := h
  exact ⟨F', h1, bj.1.fr h2 bj.2, h2.more fun _ h => .inl (.inl h), h3⟩
theorem SavedJ.next (hf : Fr (fun k => F k ∨ k = jb) w W) (hs : ∀ k, F' k → F k ∨ w.heap.size ≤ k) (bj : BF W F' jb 48 (jcells g y)) (hN : Dk.Next W base F' g s' W') : SavedJ w base F g jb (s', y) W' := by
  obtain ⟨F2, k1, k2, k3⟩ := hN
  refine ⟨F2, k1, bj.1.fr k2 bj.2, hf.trans k2 fun k hk => (hs k hk).imp_left .inl, fun k hk => ?_⟩
  rcases k3 k hk with h | h
  · exact hs k h
  · exact .inr (Nat.le_trans hf.size h)
theorem SavedJ.then (hf : Fr (fun k => F k ∨ k = jb) w W) (hs : ∀ k, F' k → F k ∨ w.heap.size ≤ k) (hN : SavedJ W base F' g jb x W') : SavedJ w base F g jb x W' := by
  obtain ⟨F2, k1, k2, k3, k4⟩ := hN
  refine ⟨F2, k1, k2, hf.trans k3 fun k hk => ?_, fun k hk => ?_⟩
  · rcases hk with h | h
    · exact (hs k h).imp_left .inl
    · exact .inl (.inr h)
  · rcases k4 k hk with h | h
    · exact hs k h
    · exact .inr (Nat.le_trans hf.size h)
/-- What Switch does behind its checks. -/
def swJ (s : DS) (y : H) (b : List UInt8) : Nat × DS × H := then_ (then_ (lift (fun s => putJ s (1 - (y.live : Nat)) b) (s, y)) turnJ) (lift fun s => shortD s (y.live : Nat) 0)
set_option maxRecDepth 100000 in
set_option maxHeartbeats 1000000 in
theorem switch_run (h : At w base F g s) (wf : Wf y) (lv : y.live < 2) (bj : BF w F jb 48 (jcells g y)) {sb B2 B7 B3 B4 B5 a1 a2 a3 : Nat} {A : Option Addr} {n c : Nat} {b : List UInt8} (hn : n = b.length) (hnc : n ≤ c) (hcm : c ≤ maxLen) (hI : Bytes w w.heap.size A b) (hAF : b ≠ [] → ∀ x o, A = some ⟨x, o, none⟩ → ¬ F x)
    (p2 : BF w F B2 27 #[ptr jb]) (p7 : BF w F B7 3 #[.int .i64 (y.live : Nat)])
    (p3 : BF w F B3 27 #[ptr jb]) (p4 : BF w F B4 3 #[.int .i64 (1 - (y.live : Nat))]) (p5 : BF w F B5 23 #[.slice A n c])
    (qa1 : BF w F a1 26 #[ptr g]) (qa2 : BF w F a2 3 #[.int .i64 (y.live : Nat)]) (qa3 : BF w F a3 3 #[.int .i64 0])
    (qs : BF w F sb 51 #[.func (.func 55) #[] #[ptr B3, ptr B4, ptr B5], .func (.func 51) #[] #[ptr B2, ptr B7], .func (.func 69) #[] #[ptr a1, ptr a2, ptr a3]]) :
    Calls Try.prog 34 #[.slice (some ⟨sb, 0, none⟩) 3 3] w fun e w' => e = .returned (.int .i64 ((swJ s y b).1 : Nat)) ∧ SavedJ w base F g jb (swJ s y b).2 w' := by
  obtain ⟨⟨d1, s1⟩, hr1⟩ : ∃ r, putJ s (1 - (y.live : Nat)) b = r := ⟨_, rfl⟩
  obtain ⟨⟨d2, s2, y2⟩, hr2⟩ : ∃ r, turnJ (s1, y) = r := ⟨_, rfl⟩
  obtain ⟨⟨d3, s3⟩, hr3⟩ : ∃ r, shortD s2 (y.live : Nat) 0 = r := ⟨_, rfl⟩
  have e1 : d1 ≠ 0 → swJ s y b = (d1, s1, y) := fun h0 => by
    unfold swJ lift
    dsimp only
    rw [hr1, then_no (r := then_ _ _)]
    · rw [then_no h0]
    · rw [then_no h0]; exact h0
  have e2 : d1 = 0 → d2 ≠ 0 → swJ s y b = (d2, s2, y2) := fun h0 h2 => by
    unfold swJ lift
    dsimp only
    rw [hr1, then_ok (r := (d1, s1, y)) h0]
    dsimp only
    rw [hr2, then_no (r := (d2, s2, y2)) h2]
  have e3 : d1 = 0 → d2 = 0 → swJ s y b = (d3, s3, y2) := fun h0 h2 => by
    unfold swJ lift
    dsimp only
    rw [hr1, then_ok (r := (d1, s1, y)) h0]
    dsimp only
    rw [hr2, then_ok (r := (d2, s2, y2)) h2]
    dsimp only
    rw [hr3]
  have hR := run_any 3 sb (by omega) (fun k => if k = 0 then 55 else if k = 1 then 51 else 69) (fun k => if k = 0 then #[ptr B3, ptr B4, ptr B5] else if k = 1 then #[ptr B2, ptr B7] else #[ptr a1, ptr a2, ptr a3])
    (fun k W => (k = 0 → W = w) ∧ (k = 1 → d1 = 0 ∧ SavedJ w base F g jb (s1, y) W) ∧ (k = 2 → d1 = 0 ∧ d2 = 0 ∧ SavedJ w base F g jb (s2, y2) W) ∧ (k = 3 → d1 = 0 ∧ d2 = 0 ∧ d3 = 0 ∧ SavedJ w base F g jb (s3, y2) W))
    (fun k W => k = (swJ s y b).1 ∧ SavedJ w base F g jb (swJ s y b).2 W)
    (fun k W hk hJ => by
      have ex : ∃ x, SavedJ w base F g jb x W := by
        rcases (by omega : k = 0 ∨ k = 1 ∨ k = 2) with rfl | rfl | rfl
        · rw [hJ.1 rfl]; exact ⟨_, SavedJ.of bj (Next.refl h)⟩
        · exact ⟨_, (hJ.2.1 rfl).2⟩
        · exact ⟨_, (hJ.2.2.1 rfl).2.2⟩
      obtain ⟨x, F', -, -, hf, hs⟩ := ex
      have q := (qs.atJ (by decide) bj.1 hf hs).1
      rcases (by omega : k = 0 ∨ k = 1 ∨ k = 2) with rfl | rfl | rfl
      · exact Blk.at_ q 0 rfl
      · exact Blk.at_ q 1 rfl
      · exact Blk.at_ q 2 rfl)
    (fun k hk => by
      rcases (by omega : k = 0 ∨ k = 1 ∨ k = 2) with rfl | rfl | rfl
      · exact enters_of Try.func55 (by kernel_rfl) rfl
      · exact enters_of Try.func51 (by kernel_rfl) rfl
      · exact enters_of Try.func69 (by kernel_rfl) rfl)
    (fun k W hk hJ => by
      rcases (by omega : k = 0 ∨ k = 1 ∨ k = 2) with rfl | rfl | rfl
      · obtain rfl := hJ.1 rfl
        have hS := put_runs h bj hn hnc hcm hI hAF p3 p4 p5
        rw [hr1] at hS
        refine Calls.mono hS ?_
        rintro e W' ⟨rfl, hN⟩
        have hT := SavedJ.of bj hN
        by_cases h0 : d1 = 0
        · subst h0
          exact .inl ⟨rfl, ⟨fun e => by simp at e, fun _ => ⟨rfl, hT⟩, fun e => by simp at e, fun e => by simp at e⟩⟩
        · exact .inr ⟨d1, h0, rfl, by rw [e1 h0], by rw [e1 h0]; exact hT⟩
      · obtain ⟨h0, F', hA, hq, hf, hs⟩ := hJ.2.1 rfl
        have hh := out_of bj.1.lt bj.2 hs
        have hS := turn_runs hA wf lv ⟨hq, hh⟩ (p2.atJ (by decide) bj.1 hf hs) (p7.atJ (by decide) bj.1 hf hs)
        rw [hr2] at hS
        refine Calls.mono hS ?_
        rintro e W' ⟨rfl, hN⟩
        have hT := SavedJ.then hf hs hN
        by_cases h2 : d2 = 0
        · subst h2
          exact .inl ⟨rfl, ⟨fun e => by simp at e, fun e => by simp at e, fun _ => ⟨h0, rfl, hT⟩, fun e => by simp at e⟩⟩
        · exact .inr ⟨d2, h2, rfl, by rw [e2 h0 h2], by rw [e2 h0 h2]; exact hT⟩
      · obtain ⟨h0, h2, F', hA, hq, hf, hs⟩ := hJ.2.2.1 rfl
        have hh := out_of bj.1.lt bj.2 hs
        have k1 := qa1.atJ (by decide) bj.1 hf hs
        have k2 := qa2.atJ (by decide) bj.1 hf hs
        have k3 := qa3.atJ (by decide) bj.1 hf hs
        have hS := short_any hA k1.1 k2.1 k3.1 k1.2 k2.2 k3.2
        rw [hr3] at hS
        refine Calls.mono hS ?_
        rintro e W' ⟨rfl, hN⟩
        have hT := SavedJ.next hf hs ⟨hq, hh⟩ hN
        by_cases h3 : d3 = 0
        · subst h3
          exact .inl ⟨rfl, ⟨fun e => by simp at e, fun e => by simp at e, fun e => by simp at e, fun _ => ⟨h0, h2, rfl, hT⟩⟩⟩
        · exact .inr ⟨d3, h3, rfl, by rw [e3 h0 h2], by rw [e3 h0 h2]; exact hT⟩)
    w ⟨fun _ => rfl, fun e => by simp at e, fun e => by simp at e, fun e => by simp at e⟩
  refine Calls.mono hR ?_
  rintro e w' (⟨rfl, hJ⟩ | ⟨k, hk, rfl, hc, hS⟩)
  · obtain ⟨h0, h2, h3, hS⟩ := hJ.2.2.2 rfl
    rw [e3 h0 h2]
    subst h3
    exact ⟨rfl, hS⟩
  · subst hc
    exact ⟨rfl, hS⟩
set_option maxRecDepth 100000 in
set_option maxHeartbeats 2000000 in
theorem jswitch_any (h : JAt w base F g jb s y) (A : Option Addr) (n c : Nat) (rows : B) (hn : n = rows.length) (hnm : n ≤ maxLen) (hI : BRows w w.heap.size A rows) :
    Calls Try.prog 20 #[.pointer (some ⟨jb, 0, none⟩), .slice A n c] w fun e w' => e = .returned (.int .i64 ((switchJ s y rows).1 : Nat)) ∧ SavedJ w base F g jb (switchJ s y rows).2 w' := by
  have hB1 := (Below.refl w.heap.size w).alloc (Nat.le_refl _) (.cells #[ptr jb] 27)
  have q2 := Blk.new_ w 27 #[ptr jb] rfl
  have hF : ∀ k, F k → k < w.heap.size := fun k hk => (h.at_.lt hk).2
  have HN0 := Lib.hid (none_no (h.bj.next (Fr.of_below hB1 F) (F' := F) fun _ h => .inl h))
  have hP := bput_any A n c rows hn hnm (w.alloc (.cells #[ptr jb] 27)) (hI.grow hB1)
  obtain ⟨a, e, l⟩ := y
  have lv : l < 2 := h.lv
  have HH := Lib.hid h
  obtain ⟨b, hb⟩ : ∃ b, b = Bat.put rows := ⟨_, rfl⟩
  obtain ⟨er, her⟩ : ∃ x, x = Bat.wrong rows := ⟨_, rfl⟩
  obtain ⟨m, hm⟩ : ∃ m, m = b.length := ⟨_, rfl⟩
  have HV : Hid (switchJ s ⟨a, e, l⟩ rows = if er ≠ 0 then (er, s, ⟨a, e, l⟩) else swJ s ⟨a, e, l⟩ b) := Lib.hid (by unfold switchJ swJ; rw [← her, ← hb])
  unfold PutOut at hP
  rw [← hb, ← her, ← hm] at hP
  have HP := Lib.hid hP
  have HM := Lib.hid hm
  have d2 := Blk.at_ q2 0 (v := .pointer (some ⟨jb, 0, none⟩)) rfl
  have HB1 := Lib.hid hB1
  have HQ2 := Lib.hid q2
  have HF := Lib.hid hF
  clear hb her hm h hn hnm hI hP hB1 q2 hF
  go_enter Try.func20, Try.ntmps20
  go_upto_region 1 with fail
  clear d2
  generalize hw1 : w.alloc (.cells #[ptr jb] 27) = w1 at HN0 HP HB1 HQ2
  have hw1' : w.alloc (.cells #[.pointer (some ⟨jb, 0, none⟩)] 27) = w1 := hw1
  rw [hw1']
  clear hw1 hw1'
  obtain ⟨B2, hB2e⟩ : ∃ x, x = w.heap.size := ⟨_, rfl⟩
  rw [← hB2e] at HQ2 ⊢
  have HB2E := Lib.hid hB2e
  clear hB2e
  have d2 := Blk.at_ HQ2.out 0 (v := .pointer (some ⟨jb, 0, none⟩)) rfl
  go_wp2_with fail
  refine Calls.mono HN0.out ?_
  rintro e1 w2 ⟨rfl, rfl⟩
  go_wp2_with fail
  refine Calls.mono HP.out ?_
  rintro e2 w2 ⟨A2, c2, rfl, hB2, hl2, hm2, hown⟩
  have HB2 := Lib.hid hB2
  have HOW := Lib.hid hown
  clear HP HN0 hB2 hown d2
  have HB02 := Lib.hid (HB1.out.trans (HB2.out.mono HB1.out.size))
  by_cases h0 : er = 0
  · subst h0
    have HR : Hid (switchJ s ⟨a, e, l⟩ rows = swJ s ⟨a, e, l⟩ b) := Lib.hid (by rw [HV.out, if_neg (by simp)])
    have bj2 := HH.out.bj.next (Fr.of_below HB02.out F) (F' := F) fun _ h => .inl h
    have j3 := Blk.at_ bj2.1 3 (v := .int .u8 (l : Nat)) rfl
    have d2 := Blk.at_ (HQ2.out.below HB2.out HQ2.out.lt) 0 (v := .pointer (some ⟨jb, 0, none⟩)) rfl
    have t1 : wrap64 (l : Int) = (l : Int) := IntWalk.wrap64_in _ (by omega)
    clear HV bj2
    go_upto_region 8 with fail
    clear t1 j3 d2
    have hB3 := (Below.refl w2.heap.size w2).alloc (Nat.le_refl _) (.cells #[.int .i64 (l : Nat)] 3)
    have q7 := Blk.new_ w2 3 #[.int .i64 (l : Nat)] rfl
    have hB03 := HB02.out.trans (hB3.mono HB02.out.size)
    have p7 : BF (w2.alloc (.cells #[.int .i64 (l : Nat)] 3)) F w2.heap.size 3 #[.int .i64 (l : Nat)] := ⟨q7, fun e => by have := HF.out _ e; have := HB02.out.size; omega⟩
    have p2 : BF (w2.alloc (.cells #[.int .i64 (l : Nat)] 3)) F B2 27 #[ptr jb] := ⟨(HQ2.out.below HB2.out HQ2.out.lt).below hB3 (HQ2.out.below HB2.out HQ2.out.lt).lt, fun e => by have := HF.out _ e; have := HB2E.out; omega⟩
    have HA3 := Lib.hid (HH.out.at_.below hB03)
    have HJ3 := Lib.hid (HH.out.bj.next (Fr.of_below hB03 F) (F' := F) fun _ h => .inl h)
    have HP3 := Lib.hid (own_far_of (own_base HOW.out HB1.out.size) HF.out)
    generalize w2.alloc (.cells #[.int .i64 (l : Nat)] 3) = w3 at *
    obtain ⟨B7, hB7e⟩ : ∃ x, x = w2.heap.size := ⟨_, rfl⟩
    rw [← hB7e] at p7 ⊢
    have HB3 := Lib.hid hB3
    have HB03 := Lib.hid hB03
    have c2' := Blk.at_ p2.1 0 (v := .pointer (some ⟨jb, 0, none⟩)) rfl
    have c7 := Blk.at_ p7.1 0 (v := .int .i64 (l : Nat)) rfl
    have cj := Blk.at_ HJ3.out.1 0 (v := .pointer (some ⟨g, 0, none⟩)) rfl
    have HP2 := Lib.hid p2
    have HP7 := Lib.hid p7
    have t2 : IntKind.i64.wrap (1 - (l : Int)) = 1 - (l : Int) := IntWalk.i64_in _ (by omega)
    clear p2 p7 q7 hB3 hB03 hB7e
    refine wp_region_heldG [4, 11, 12, 13] (fun st W => W.cell? ⟨B2, 0, none⟩ = some (.pointer (some ⟨jb, 0, none⟩)) ∧ W.cell? ⟨B7, 0, none⟩ = some (.int .i64 (l : Nat)) ∧ W.cell? ⟨jb, 0, none⟩ = some (.pointer (some ⟨g, 0, none⟩))) (by kernel_rfl) ?_
    change wpAnyG _ _ _ _ _ _ 15 _ _ (World.drew _)
    have hS : w3.drew.cell? ⟨B2, 0, none⟩ = some (.pointer (some ⟨jb, 0, none⟩)) ∧ w3.drew.cell? ⟨B7, 0, none⟩ = some (.int .i64 (l : Nat)) ∧ w3.drew.cell? ⟨jb, 0, none⟩ = some (.pointer (some ⟨g, 0, none⟩)) := ⟨c2', c7, cj⟩
    refine g_take (i := 0) rfl rfl (by kernel_rfl) (by kernel_rfl) (by kernel_rfl) (by kernel_rfl) (by kernel_rfl) (fun _ _ _ h => h) hS (fun L W hL hW => by obtain ⟨e3, e4, e5⟩ := hW; go_simp; rfl) ?_
    refine g_take (i := 1) rfl rfl (by kernel_rfl) (by kernel_rfl) (by kernel_rfl) (by kernel_rfl) (by kernel_rfl) (fun _ _ _ h => h) hS (fun L W hL hW => by obtain ⟨e3, e4, e5⟩ := hW; go_simp; rfl) ?_
    refine g_take (i := 2) rfl rfl (by kernel_rfl) (by kernel_rfl) (by kernel_rfl) (by kernel_rfl) (by kernel_rfl) (fun _ _ _ h => h) hS (fun L W hL hW => by obtain ⟨e3, e4, e5⟩ := hW; go_simp; rfl) ?_
    refine g_take (i := 3) rfl rfl (by kernel_rfl) (by kernel_rfl) (by kernel_rfl) (by kernel_rfl) (by kernel_rfl) (fun _ _ _ h => h) hS (fun L W hL hW => by obtain ⟨e3, e4, e5⟩ := hW; go_simp; rfl) ?_
    refine g_take (i := 5) rfl rfl (by kernel_rfl) (by kernel_rfl) (by kernel_rfl) (by kernel_rfl) (by kernel_rfl) (fun _ _ _ h => h) hS (fun L W hL hW => by obtain ⟨e3, e4, e5⟩ := hW; go_simp; rfl) ?_
    refine g_take (i := 6) rfl rfl (by kernel_rfl) (by kernel_rfl) (by kernel_rfl) (by kernel_rfl) (by kernel_rfl) (fun _ _ _ h => h) hS (fun L W hL hW => by obtain ⟨e3, e4, e5⟩ := hW; go_simp; rfl) ?_
    refine g_take (i := 7) rfl rfl (by kernel_rfl) (by kernel_rfl) (by kernel_rfl) (by kernel_rfl) (by kernel_rfl) (fun _ _ _ h => h) hS (fun L W hL hW => by obtain ⟨e3, e4, e5⟩ := hW; go_simp; rfl) ?_
    refine g_take (i := 8) rfl rfl (by kernel_rfl) (by kernel_rfl) (by kernel_rfl) (by kernel_rfl) (by kernel_rfl) (fun _ _ _ h => h) hS (fun L W hL hW => by obtain ⟨e3, e4, e5⟩ := hW; go_simp; rfl) ?_
    refine g_take (i := 9) rfl rfl (by kernel_rfl) (by kernel_rfl) (by kernel_rfl) (by kernel_rfl) (by kernel_rfl) (fun _ _ _ h => h) hS (fun L W hL hW => by obtain ⟨e3, e4, e5⟩ := hW; go_simp; rfl) ?_
    refine g_take (i := 10) rfl rfl (by kernel_rfl) (by kernel_rfl) (by kernel_rfl) (by kernel_rfl) (by kernel_rfl) (fun _ _ _ h => h) hS (fun L W hL hW => by obtain ⟨e3, e4, e5⟩ := hW; go_simp; rfl) ?_
    have n2 : B2 < w3.drew.heap.size := HP2.out.1.lt
    have n7 : B7 < w3.drew.heap.size := HP7.out.1.lt
    have nj : jb < w3.drew.heap.size := HJ3.out.1.lt
    clear c2' c7 cj t2
    refine g_one (i := 4) rfl rfl (by kernel_rfl) fun K hK => ?_
    go_simp
    refine Calls.mono (put_makes jb (1 - (l : Nat)) A2 m c2 w3.drew) ?_
    rintro e4 w4 ⟨rfl, hB4, sz4, p3, p4, p5⟩
    have hS4 : w4.cell? ⟨B2, 0, none⟩ = some (.pointer (some ⟨jb, 0, none⟩)) ∧ w4.cell? ⟨B7, 0, none⟩ = some (.int .i64 (l : Nat)) ∧ w4.cell? ⟨jb, 0, none⟩ = some (.pointer (some ⟨g, 0, none⟩)) := ⟨(hB4.cell (p := ⟨B2, 0, none⟩) n2).trans hS.1, (hB4.cell (p := ⟨B7, 0, none⟩) n7).trans hS.2.1, (hB4.cell (p := ⟨jb, 0, none⟩) nj).trans hS.2.2⟩
    go_simp
    refine hK _ _ hS4 ?_
    clear hK K
    refine g_one (i := 11) rfl rfl (by kernel_rfl) fun K hK => ?_
    go_simp
    refine Calls.mono (shorten_any g (l : Nat) 0 w4) ?_
    rintro e5 w5 ⟨rfl, hB5, sz5, k1, k2, k3⟩
    have sz4' : w4.heap.size = w3.heap.size + 1 + 1 + 1 := sz4
    rw [sz4'] at k1 k2 k3 sz5
    have hB35 := hB4.trans (hB5.mono hB4.size)
    have hS5 : w5.cell? ⟨B2, 0, none⟩ = some (.pointer (some ⟨jb, 0, none⟩)) ∧ w5.cell? ⟨B7, 0, none⟩ = some (.int .i64 (l : Nat)) ∧ w5.cell? ⟨jb, 0, none⟩ = some (.pointer (some ⟨g, 0, none⟩)) := ⟨(hB35.cell (p := ⟨B2, 0, none⟩) n2).trans hS.1, (hB35.cell (p := ⟨B7, 0, none⟩) n7).trans hS.2.1, (hB35.cell (p := ⟨jb, 0, none⟩) nj).trans hS.2.2⟩
    go_simp
    refine hK _ _ hS5 ?_
    clear hK K
    have hB6 := (Below.refl w5.heap.size w5).alloc (Nat.le_refl _) (.cells #[.func (.func 55) #[] #[ptr w3.heap.size, ptr (w3.heap.size + 1), ptr (w3.heap.size + 1 + 1)], .func (.func 51) #[] #[ptr B2, ptr B7], .func (.func 69) #[] #[ptr (w3.heap.size + 1 + 1 + 1), ptr (w3.heap.size + 1 + 1 + 1 + 1), ptr (w3.heap.size + 1 + 1 + 1 + 1 + 1)]] 51)
    have qs := Blk.new_ w5 51 #[.func (.func 55) #[] #[ptr w3.heap.size, ptr (w3.heap.size + 1), ptr (w3.heap.size + 1 + 1)], .func (.func 51) #[] #[ptr B2, ptr B7], .func (.func 69) #[] #[ptr (w3.heap.size + 1 + 1 + 1), ptr (w3.heap.size + 1 + 1 + 1 + 1), ptr (w3.heap.size + 1 + 1 + 1 + 1 + 1)]] rfl
    have hB36 := hB35.trans (hB6.mono hB35.size)
    have hS6 : (w5.alloc (.cells #[.func (.func 55) #[] #[ptr w3.heap.size, ptr (w3.heap.size + 1), ptr (w3.heap.size + 1 + 1)], .func (.func 51) #[] #[ptr B2, ptr B7], .func (.func 69) #[] #[ptr (w3.heap.size + 1 + 1 + 1), ptr (w3.heap.size + 1 + 1 + 1 + 1), ptr (w3.heap.size + 1 + 1 + 1 + 1 + 1)]] 51)).cell? ⟨B2, 0, none⟩ = some (.pointer (some ⟨jb, 0, none⟩)) ∧ (w5.alloc (.cells #[.func (.func 55) #[] #[ptr w3.heap.size, ptr (w3.heap.size + 1), ptr (w3.heap.size + 1 + 1)], .func (.func 51) #[] #[ptr B2, ptr B7], .func (.func 69) #[] #[ptr (w3.heap.size + 1 + 1 + 1), ptr (w3.heap.size + 1 + 1 + 1 + 1), ptr (w3.heap.size + 1 + 1 + 1 + 1 + 1)]] 51)).cell? ⟨B7, 0, none⟩ = some (.int .i64 (l : Nat)) ∧ (w5.alloc (.cells #[.func (.func 55) #[] #[ptr w3.heap.size, ptr (w3.heap.size + 1), ptr (w3.heap.size + 1 + 1)], .func (.func 51) #[] #[ptr B2, ptr B7], .func (.func 69) #[] #[ptr (w3.heap.size + 1 + 1 + 1), ptr (w3.heap.size + 1 + 1 + 1 + 1), ptr (w3.heap.size + 1 + 1 + 1 + 1 + 1)]] 51)).cell? ⟨jb, 0, none⟩ = some (.pointer (some ⟨g, 0, none⟩)) := ⟨(hB36.cell (p := ⟨B2, 0, none⟩) n2).trans hS.1, (hB36.cell (p := ⟨B7, 0, none⟩) n7).trans hS.2.1, (hB36.cell (p := ⟨jb, 0, none⟩) nj).trans hS.2.2⟩
    rw [sz5] at qs
    refine g_one (i := 12) rfl rfl (by kernel_rfl) fun K hK => ?_
    go_simp
    refine hK _ _ hS6 ?_
    clear hK K
    have hfr : Fr F w3 (w5.alloc (.cells #[.func (.func 55) #[] #[ptr w3.heap.size, ptr (w3.heap.size + 1), ptr (w3.heap.size + 1 + 1)], .func (.func 51) #[] #[ptr B2, ptr B7], .func (.func 69) #[] #[ptr (w3.heap.size + 1 + 1 + 1), ptr (w3.heap.size + 1 + 1 + 1 + 1), ptr (w3.heap.size + 1 + 1 + 1 + 1 + 1)]] 51)) := ((Fr.refl F w3).drew).trans (Fr.of_below hB36 F) (fun _ h => .inl h)
    have lo3 : ∀ k, F k → k < w3.heap.size := fun k hk => (HA3.out.lt hk).2
    have nf : ∀ k, w3.heap.size ≤ k → ¬ F k := fun k hk e => by have := lo3 k e; omega
    have B46 := hB5.trans (hB6.mono hB5.size)
    have hA6 := HA3.out.drew.below hB36
    have bj6 := HJ3.out.next hfr (F' := F) fun _ h => .inl h
    have b26 := HP2.out.next hfr (F' := F) fun _ h => .inl h
    have b76 := HP7.out.next hfr (F' := F) fun _ h => .inl h
    have hI6 := (HP3.out.2.1.grow ((HB3.out.drew).trans (hB36.mono HB3.out.size)))
    have hR := switch_run hA6 HH.out.wf HH.out.lv bj6 HP3.out.1 hl2 hm2 hI6 HP3.out.2.2 b26 b76
      ⟨p3.below B46 p3.lt, nf _ (Nat.le_refl _)⟩ ⟨p4.below B46 p4.lt, nf _ (Nat.le_succ _)⟩ ⟨p5.below B46 p5.lt, nf _ (by show w3.heap.size ≤ w3.heap.size + 1 + 1; omega)⟩
      ⟨k1.below hB6 k1.lt, nf _ (by omega)⟩ ⟨k2.below hB6 k2.lt, nf _ (by omega)⟩ ⟨k3.below hB6 k3.lt, nf _ (by omega)⟩ ⟨qs, nf _ (by omega)⟩
    refine g_one (i := 13) rfl rfl (by kernel_rfl) fun K hK => ?_
    go_simp
    refine Calls.mono hR ?_
    rintro e9 w9 ⟨rfl, hV⟩
    have hS9 : w9.cell? ⟨B2, 0, none⟩ = some (.pointer (some ⟨jb, 0, none⟩)) ∧ w9.cell? ⟨B7, 0, none⟩ = some (.int .i64 (l : Nat)) ∧ w9.cell? ⟨jb, 0, none⟩ = some (.pointer (some ⟨g, 0, none⟩)) := by
      obtain ⟨F9, -, q9, hf9, -⟩ := hV
      exact ⟨Blk.at_ (b26.1.fr hf9 fun e => e.elim b26.2 (Blk.ne_ b26.1 bj6.1 (by decide))) 0 rfl, Blk.at_ (b76.1.fr hf9 fun e => e.elim b76.2 (Blk.ne_ b76.1 bj6.1 (by decide))) 0 rfl, Blk.at_ q9 0 rfl⟩
    have HV : Hid (SavedJ w base F g jb (swJ s ⟨a, e, l⟩ b).2 w9) := Lib.hid (SavedJ.then (((Fr.of_below HB03.out F).trans hfr fun _ h => .inl h).more fun _ h => .inl (.inl h)) (fun _ h => .inl h) hV)
    go_simp
    refine hK _ _ hS9 ?_
    clear hK K hR hV hA6 bj6 b26 b76 hI6 hfr B46 lo3 nf qs hB36 hB6 hB35 hB5 hB4 hS6 hS5 hS4 hS p3 p4 p5 k1 k2 k3 sz4 sz4' sz5
    refine g_take (i := 14) rfl rfl (by kernel_rfl) (by kernel_rfl) (by kernel_rfl) (by kernel_rfl) (by kernel_rfl) (fun _ _ _ h => h) hS9 (fun L W hL hW => by go_simp; rfl) ?_
    refine wpAnyG_done (by kernel_rfl) ?_ _
    obtain ⟨⟨d, s9, y9⟩, hd⟩ : ∃ x, swJ s ⟨a, e, l⟩ b = x := ⟨_, rfl⟩
    rw [hd] at HR HV ⊢
    clear hd hS9
    dsimp only
    go_wp2_with fail
    go_ret
    rw [HR.out]
    exact ⟨rfl, HV.out⟩
  · have u1 : ((er : Int) != 0) = true := by rw [bne_iff_ne]; omega
    have u2 : ¬ (er : Int) = 0 := by omega
    have HR : Hid (switchJ s ⟨a, e, l⟩ rows = (er, s, ⟨a, e, l⟩)) := Lib.hid (by rw [HV.out, if_pos h0])
    clear HV h0
    go_wp2_with fail
    go_ret
    rw [HR.out]
    exact ⟨rfl, SavedJ.of HH.out.bj ⟨F, HH.out.at_.below HB02.out, Fr.of_below HB02.out F, fun _ h => .inl h⟩⟩
end
end Go.Proofs.Ytmkijkkddoamgaa.Jo
