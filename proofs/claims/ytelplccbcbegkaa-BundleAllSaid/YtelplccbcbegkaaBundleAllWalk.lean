/-
  The walk of BundleAll.
-/
import Derived.Test.YtelplccbcbegkaaBundleEMap
namespace Go.Proofs.Ytelplccbcbegkaa.OrW
set_option linter.unusedVariables false
open Go Go.RowKit Go.Maps Go.Proofs Go.Proofs.Ytelplccbcbegkaa Go.Proofs.Ytelplccbcbegkaa.Wd Go.Proofs.Ytelplccbcbegkaa.GrW Go.Proofs.Ytelplccbcbegkaa.Ord
open Go.Proofs.Ytelplccbcbegkaa.Gr (OK putL outs intos Path edgesTo ev)
set_option maxRecDepth 100000 in
set_option maxHeartbeats 16000000 in
theorem all_walk (nb : Nat) (hnb : nb < 256) (A : Option Addr) (c : Nat) (l : List (Int × Int)) (n : Nat) (hn : n = l.length) (hnc : n ≤ c) (hcm : c ≤ maxLen) (mb : Nat) (hmb : mb < 256) (B : Option Addr) (d : Nat) (l2 : List (Int × Int)) (n2 : Nat) (hn2 : n2 = l2.length) (hnd : n2 ≤ d) (hdm : d ≤ maxLen) (w : World) (hI : EdgesAt w w.heap.size A l) (hJ : EdgesAt w w.heap.size B l2) :
    Calls Try.prog 4 #[.int .u8 nb, .slice A n c, .int .u8 mb, .slice B n2 d] w fun e w' => e = .returned (.bool true) ∧ Below w.heap.size w w' := by
  have HOF := Lib.hid (ofB_any nb hnb A c l n hn hnc hcm w hI)
  have hMb : 2 ≤ 2 + nb % 30 ∧ 2 + nb % 30 ≤ 31 := ⟨Nat.le_add_right 2 _, Nat.add_le_add_left (Nat.le_of_lt_succ (Nat.mod_lt nb (by decide))) 2⟩
  generalize 2 + nb % 30 = M at *
  obtain ⟨k, hk⟩ : ∃ k, k = mb % 8 := ⟨_, rfl⟩
  have HK0 : Hid ((mb : Int).tmod 8 = (k : Int)) := Lib.hid (by rw [hk]; exact tmod8 mb)
  have hk8 : k ≤ 7 := by rw [hk]; exact Nat.le_of_lt_succ (Nat.mod_lt mb (by decide))
  obtain ⟨Mk, hMk⟩ : ∃ Mk, Mk = M + k := ⟨_, rfl⟩
  have HMK := Lib.hid hMk
  have HAK : Hid ((M : Int) + (k : Int) = (Mk : Int)) := Lib.hid (by omega)
  have hMk38 : Mk ≤ 38 := by omega
  have HKW : Hid (wrap64 (k : Int) = (k : Int)) := Lib.hid (IntWalk.wrap64_in _ (by omega))
  have hM1 := hMb.1
  have hM2 := hMb.2
  have hMk1 : 2 ≤ Mk := by omega
  have HJ := Lib.hid hJ
  have HN2 := Lib.hid hn2
  clear hk hMk hmb hI hJ hn hnc hcm hMb hn2
  go_enter Try.func4, Try.ntmps4
  go_wp2_with fail
  refine Calls.mono HOF.out ?_
  rintro e w1 ⟨o, rfl, h1⟩
  have HO1 := Lib.hid h1
  clear HOF h1
  have hk0 := HK0.out
  have hak := HAK.out
  have hkw := HKW.out
  go_wp2_with fail
  clear hk0 hkw
  refine Calls.mono (within_any B d l2 n2 HN2.out hnd hdm Mk (by omega) (by omega) w1 (((EdgesAt.below HJ.out HO1.out.low)).more' HO1.out.low.size)) ?_
  rintro e w2 ⟨A2, c2, rfl, b2, o2⟩
  obtain ⟨F, L, P, Ax, hO, hS⟩ := HO1.out
  have HF1 : Hid (∀ k, F k → k < w1.heap.size) := Lib.hid (fun k e => (hO.f1 k e).2)
  obtain ⟨es, hes⟩ : ∃ es, es = withinL Mk l2 := ⟨_, rfl⟩
  have HES : Hid (∀ x ∈ es, ∃ a b : Nat, a < Mk ∧ b < Mk ∧ x = ((a : Int), (b : Int))) := Lib.hid (by rw [hes]; exact withinL_each (by omega) l2)
  have hq40 : es.length ≤ 40 := by rw [hes]; exact withinL_len _ _
  rw [← hes] at o2 ⊢
  clear hes
  obtain ⟨q, hq⟩ : ∃ q, q = es.length := ⟨_, rfl⟩
  rw [← hq] at o2 hq40 ⊢
  have HQ := Lib.hid hq
  have HEA := Lib.hid (EdgesAt.of_own o2).1
  have HEB : Hid (∀ b off, A2 = some ⟨b, off, none⟩ → w1.heap.size ≤ b ∧ b < w2.heap.size) := Lib.hid (fun b off e => by
    subst e
    obtain ⟨h1, _, h2⟩ := own_row o2 (g := b) rfl
    exact ⟨h1, h2.lt⟩)
  have HR2 := Lib.hid o2
  have HO2 := Lib.hid (hO.below b2)
  have HS := Lib.hid hS
  have hw12 := b2.size
  clear HO1 hO hS o2 b2 hq HK0 HKW
  go_wp2_with fail
  refine Calls.mono (list_o HO2.out.ord HS.out.perm (by omega)) ?_
  rintro e w3 ⟨v3, rfl, o3, b3⟩
  have hlA : (zs Ax).length = M := by rw [zs_length, HS.out.perm.la]
  rw [hlA] at o3
  obtain ⟨A3, c3, rfl⟩ := own_form o3
  have HR3 := Lib.hid o3
  have HO3 := Lib.hid (HO2.out.below b3)
  have HR23 := Lib.hid (own_belowW HR2.out b3)
  have hw23 := b3.size
  clear HO2 HR2 o3 b3 hlA
  go_wp2_with fail
  refine Calls.mono (edges_o HO3.out.ord HS.out.ok (by omega)) ?_
  rintro e w4 ⟨A4, c4, rfl, b4, o4⟩
  obtain ⟨me, hme⟩ : ∃ me, me = (edgesTo L M).length := ⟨_, rfl⟩
  have hmeb : me ≤ 1000000000000 := by rw [hme]; have := Gr.edgesTo_length (HS.out.ok.rises (by omega)) M; omega
  rw [← hme] at o4 ⊢
  have HME := Lib.hid hme
  have HR4 := Lib.hid o4
  have HO4 := Lib.hid (HO3.out.below b4)
  have HR24 := Lib.hid (own_belowW HR23.out b4)
  have HR34 := Lib.hid (own_belowW HR3.out b4)
  have hw34 := b4.size
  clear HO3 HR3 HR23 o4 b4 hme
  go_wp2_with fail
  refine Calls.mono (joined_any w4 w.heap.size o M F L P Ax HO4.out.ord HS.out Mk (by omega) (by omega) A2 q c2 w1.heap.size es HQ.out (by omega) HR24.out HES.out) ?_
  rintro e w5 ⟨bj, rfl, hbj, b5⟩
  have HBJ := Lib.hid hbj
  have HO5 := Lib.hid (HO4.out.below b5)
  have HR25 := Lib.hid (own_belowW HR24.out b5)
  have HR35 := Lib.hid (own_belowW HR34.out b5)
  have HR45 := Lib.hid (own_belowW HR4.out b5)
  have hw45 := b5.size
  have HEA5 := Lib.hid (EdgesAt.of_own HR25.out).1
  have HEB5 : Hid (∀ b off, A2 = some ⟨b, off, none⟩ → w1.heap.size ≤ b ∧ b < w5.heap.size) := Lib.hid (fun b off e => by have := HEB.out b off e; omega)
  clear HO4 HR24 HR34 HR4 b5 hbj hak
  go_wp2_with fail
  refine Calls.mono (bput_any w5 w.heap.size o M F L P Ax HO5.out.ord HS.out (by omega) (k : Int) HS.out.hok A2 q c2 es HQ.out (by omega) HEA5.out (fun b off e => (HEB5.out b off e).2) (fun b off e e2 => by have := (HEB5.out b off e).1; have := HF1.out b e2; omega)) ?_
  rintro e w6 ⟨kf, hf, hc⟩
  obtain ⟨iw, Lw, Pw, Aw, hwent⟩ := fits0 hf (by omega)
  have hbiff : bj = true ↔ kf = 0 := by rw [HBJ.out, HMK.out]; exact JoinB.iff HS.out hwent (by rw [← HMK.out]; exact HES.out)
  have hkf := hwent.inside (by rw [← HMK.out]; exact HES.out)
  clear hwent HBJ hf
  rcases hc with ⟨hk0, rfl, b6⟩ | ⟨rfl, -, L', P', A', hr, rfl, hu⟩
  · have hk25 : kf = 25 := hkf.resolve_left hk0
    have hbf : bj = false := by rw [← Bool.not_eq_true]; exact fun e => hk0 (hbiff.1 e)
    subst hk25
    subst hbf
    have HO6 := Lib.hid (HO5.out.below b6)
    have HR36 := Lib.hid (own_belowW HR35.out b6)
    have HR46 := Lib.hid (own_belowW HR45.out b6)
    clear HO5 HR25 HR35 HR45 HEA5 HEB5 b6 hbiff hkf hk0
    go_wp2_with fail
    refine Calls.mono (list_o HO6.out.ord HS.out.perm (by omega)) ?_
    rintro e w7 ⟨v7, rfl, o7, b7⟩
    have hlA : (zs Ax).length = M := by rw [zs_length, HS.out.perm.la]
    rw [hlA] at o7
    obtain ⟨A7, c7, rfl⟩ := own_form o7
    have HO7 := Lib.hid (HO6.out.below b7)
    have HR7 := Lib.hid o7
    have HR37 := Lib.hid (own_belowW HR36.out b7)
    have HR47 := Lib.hid (own_belowW HR46.out b7)
    clear HO6 HR36 HR46 o7 b7 hlA
    go_wp2_with fail
    refine Calls.mono (ints_two HR7.out HR37.out) ?_
    rintro e w8 ⟨rfl, b8⟩
    rw [decide_eq_true (show zs Ax = zs Ax from rfl)]
    have HO8 := Lib.hid (HO7.out.below b8)
    have HR48 := Lib.hid (own_belowW HR47.out b8)
    clear HO7 HR7 HR37 HR47 b8
    go_wp2_with fail
    refine Calls.mono (edges_o HO8.out.ord HS.out.ok (by omega)) ?_
    rintro e w9 ⟨A9, c9, rfl, b9, o9⟩
    rw [← HME.out] at o9 ⊢
    have HO9 := Lib.hid (HO8.out.below b9)
    have HR49 := Lib.hid (own_belowW HR48.out b9)
    have HR9 := Lib.hid o9
    clear HO8 HR48 b9 o9
    go_wp2_with fail
    refine Calls.mono (sameEdges_any A9 A4 c9 c4 (edgesTo L M) (edgesTo L M) me me HME.out HME.out (EdgesAt.of_own HR9.out).2.2.1 (EdgesAt.of_own HR9.out).2.2.2 w9 (EdgesAt.of_own HR9.out).1 (EdgesAt.of_own HR49.out).1) ?_
    rintro e w10 ⟨rfl, b10⟩
    rw [decide_eq_true (show edgesTo L M = edgesTo L M from rfl)]
    have HO10 := Lib.hid (HO9.out.below b10)
    clear HO9 HR49 HR9 b10
    go_wp2_with fail
    refine Calls.mono (len_o HO10.out.ord) ?_
    rintro e w' ⟨rfl, rfl⟩
    have en : ((M : Int) == (M : Int)) = true := by simp
    have HLW := Lib.hid HO10.out.low
    go_wp2_with fail
    refine Calls.mono (awakeB_any _) ?_
    rintro e w9 ⟨rfl, b9⟩
    have HB9 := Lib.hid (HLW.out.trans (b9.mono HLW.out.size))
    clear HLW b9
    go_wp2_with fail
    go_ret
    exact ⟨rfl, HB9.out⟩
  · have hbt : bj = true := hbiff.2 rfl
    subst hbt
    obtain ⟨F6, hO6, hfr6, hF6⟩ := HO5.out.upd hu
    rw [Int.toNat_natCast, ← HMK.out] at hO6 hr
    have hst6 := hr.st (by rw [HMK.out]; exact HS.out.gro k)
    have hed6 := hr.edge (by rw [HMK.out]; exact HS.out.gro k)
    have HO6 := Lib.hid hO6
    have HST6 := Lib.hid hst6
    have HED6 : Hid (∀ x y : Nat, Gr.E L' x y ↔ ((x : Int), (y : Int)) ∈ edgesTo L M ++ es) := Lib.hid (fun x y => by
      rw [hed6, grow_edge HS.out.ok, List.mem_append, mem_edgesTo' HS.out.ok])
    have HR46 := Lib.hid (own_fr HR45.out hfr6 HF1.out (by omega))
    have HR26 := Lib.hid (own_fr HR25.out hfr6 HF1.out (Nat.le_refl _))
    have hmm := @run_makeMap Try.prog
    have hw56 := hfr6.size
    obtain ⟨w6b, hw6b⟩ : ∃ w6b, w6b = (w6.alloc (.map #[] 0)).alloc (.cells #[] 34) := ⟨_, rfl⟩
    have hb6b : Below w6.heap.size w6 w6b := by rw [hw6b]; exact ((Below.refl _ w6).alloc (Nat.le_refl _) _).alloc (by simp) _
    have hown0 : w6b.ownsRow (w6.heap.size + 1) 34 2 (.slice (some ⟨w6.heap.size + 1, 0, none⟩) 0 0) 0 (ev []) := by
      rw [hw6b]
      exact (Blk.new_ (w6.alloc (.map #[] 0)) 34 #[] (n := w6.heap.size + 1) (by simp)).ownS (Nat.le_refl _) 2 0 rfl (by decide)
    have hom0 : EState w6b w6.heap.size 0 [] := by
      rw [hw6b]
      have h := World.ownsMap_made (H := Unit) w6 Try.prog 34 (plainElem Try.prog 3)
      exact ⟨_, [], oe_keep h (Below.heap_alloc _ _ _ (by simp)), EMap.nil, List.nodup_nil, fun x => Iff.rfl⟩
    have hs6b : w6.heap.size + 1 ≤ w6b.heap.size := by rw [hw6b]; simp
    have HW6B := Lib.hid hw6b
    have HB6B := Lib.hid hb6b
    have HOWN0 := Lib.hid hown0
    have HOM0 := Lib.hid hom0
    have HR46B := Lib.hid (own_belowW HR46.out hb6b)
    have HR26B := Lib.hid (own_belowW HR26.out hb6b)
    obtain ⟨i0, hi0, hz0, hz1, hz2⟩ := info_parts infoEdge
    clear HO5 HR25 HR35 HR45 HEA5 HEB5 hbiff hkf hr hu hO6 hst6 hed6 hfr6 hF6 hb6b hown0 hom0 HR46
    subst hw6b
    clear HW6B
    go_wp2_with (at_builtin; refine wpList_plain rfl fun _ hK => wp_append_own2 _ (.tmp 96) (.tmp 97) 22 rfl (w6.heap.size + 1) w3.heap.size 34 i0 _ 2 16 Try.underlying22 hi0 hz0 hz1 hz2 rfl (by omega) _ 0 (ev []) rfl HOWN0.out A4 me c4 (ev (edgesTo L M)) rfl HR46B.out (ev_one _) (by unfold maxLen; omega) (by omega) (by simp) ?_)
    intro v8 w8 ho8 hg8 _
    refine hK _ _ ?_
    clear hK
    have hs0 : w6.heap.size + 1 ≤ (((w6.alloc (.map #[] 0)).alloc (.cells #[] 34))).heap.size := by simp
    have hb8 : Below (w6.heap.size + 1) ((w6.alloc (.map #[] 0)).alloc (.cells #[] 34)) w8 := (Below.refl _ _).grown hg8 hs0 (fun j hj => (own_row HOWN0.out hj).1)
    have hm8 : EState w8 w6.heap.size 0 [] := HOM0.out.keep (hg8.block _ (by simp; omega) (fun e => by have := (own_row HOWN0.out e.symm).1; omega))
    have hl8 : Below w6.heap.size w6 w8 := HB6B.out.trans (hb8.mono (by omega))
    have HR28 := Lib.hid (own_belowW HR26.out hl8)
    have HM8 := Lib.hid hm8
    have HL8 := Lib.hid hl8
    have HO8 := Lib.hid ho8
    have hs8 : w6.heap.size + 1 ≤ w8.heap.size := Nat.le_trans hs0 hg8.size
    clear hs0 hb8 hm8 hl8 ho8 hg8 HOM0 HOWN0 HB6B HR46B HR26B HR26
    go_wp2_with (at_builtin; refine wpList_plain rfl fun _ hK => wp_append_own2 _ (.tmp 98) (.tmp 99) 22 rfl (w6.heap.size + 1) w1.heap.size 34 i0 _ 2 16 Try.underlying22 hi0 hz0 hz1 hz2 rfl (by omega) v8 me (ev [] ++ ev (edgesTo L M)) rfl HO8.out A2 q c2 (ev es) rfl HR28.out (ev_one _) (by unfold maxLen; omega) (by omega) hs8 ?_)
    intro v9 w9 ho9 hg9 _
    refine hK _ _ ?_
    clear hK
    have hm9 : EState w9 w6.heap.size 0 [] := HM8.out.keep (hg9.block _ (by omega) (fun e => by have := (own_row HO8.out e.symm).1; omega))
    have hl9 : Below w6.heap.size w6 w9 := HL8.out.grown hg9 (by omega) (fun j hj => Nat.le_trans (Nat.le_succ _) (own_row HO8.out hj).1)
    obtain ⟨mz, hmz⟩ : ∃ mz, mz = me + q := ⟨_, rfl⟩
    have ho9 : w9.ownsRow (w6.heap.size + 1) 34 2 v9 mz (ev (edgesTo L M ++ es)) := by
      rw [Gr.ev_append, hmz]
      simpa [Gr.ev] using ho9
    obtain ⟨A9, c9, rfl⟩ := own_form ho9
    have HM9 := Lib.hid hm9
    have HL9 := Lib.hid hl9
    have HMZ : Hid (mz = (edgesTo L M ++ es).length) := Lib.hid (by rw [List.length_append, hmz, ← HME.out, ← HQ.out])
    have hmzb : mz ≤ 2000000000000 := by omega
    have HEZ := Lib.hid (EdgesAt.of_own ho9).1
    have HEZB : Hid (∀ b off, A9 = some ⟨b, off, none⟩ → w6.heap.size + 1 ≤ b ∧ b < w9.heap.size) := Lib.hid (fun b off e => by
      subst e
      obtain ⟨h1, _, h2⟩ := own_row ho9 (g := b) rfl
      exact ⟨h1, h2.lt⟩)
    have HEA : Hid (∀ x ∈ edgesTo L M ++ es, ∃ a b : Nat, a < Mk ∧ b < Mk ∧ x = ((a : Int), (b : Int))) := Lib.hid (fun x hx => by
      rcases List.mem_append.1 hx with hx | hx
      · obtain ⟨a, b, ha, hb, -, e⟩ := edgesTo_each HS.out.ok x hx
        have := HMK.out
        exact ⟨a, b, by omega, by omega, e⟩
      · exact HES.out x hx)
    have hs9 : w6.heap.size + 1 ≤ w9.heap.size := Nat.le_trans hs8 hg9.size
    clear hm9 hl9 ho9 hg9 HM8 HL8 HO8 HR28
    generalize hE0 : edgesTo L M ++ es = E0 at HMZ HEZ HEA HED6
    clear hE0
    have HZN : Hid (∀ z, z ∈ E0 ↔ z ∈ edgesTo L' Mk) := Lib.hid (fun z => by
      constructor
      · intro hz
        obtain ⟨a, b, -, -, e⟩ := HEA.out z hz
        rw [e] at hz ⊢
        exact (mem_edgesTo' HST6.out.ok).2 ((HED6.out a b).2 hz)
      · intro hz
        obtain ⟨a, b, -, -, -, e⟩ := edgesTo_each HST6.out.ok z hz
        rw [e] at hz ⊢
        exact (HED6.out a b).1 ((mem_edgesTo' HST6.out.ok).1 hz))
    go_wp2_with fail
    clear hmm
    go_loopw [102] (fun ix wr => ∃ i : Nat, i ≤ mz ∧ ix = .int .i64 i ∧ Hid (Fr (fun k => k = w6.heap.size) w9 wr ∧ EState wr w6.heap.size i (E0.take i))) (fun ix _ => mz - (intOf ix).toNat)
    case atStart => exact ⟨0, Nat.zero_le _, rfl, Lib.hid ⟨Fr.refl _ _, HM9.out⟩⟩
    case round =>
      obtain ⟨i, hi, rfl, HT⟩ := hrel
      clear HM9
      by_cases hlt : i < mz
      · have hil : i < E0.length := by have := HMZ.out; omega
        obtain ⟨b1, off1, rfl, hb1, p1, p2⟩ := HEZ.out i hil
        have hb1b := HEZB.out _ _ rfl
        have hblk : wr.heap[b1]? = w9.heap[b1]? := HT.out.1.block b1 hb1b.2 (by omega)
        obtain ⟨x, y, hx, hy, hex⟩ := HEA.out _ (List.getElem_mem hil)
        rw [hex] at p1 p2
        have q1 := (World.cell?_of_block (w := w9) (a := ⟨b1, off1 + i * 2, none⟩) hblk).trans p1
        have q2 := (World.cell?_of_block (w := w9) (a := ⟨b1, off1 + i * 2 + 1, none⟩) hblk).trans p2
        have hnx : E0.take (i + 1) = E0.take i ++ [((x : Int), (y : Int))] := by rw [List.take_succ_eq_append_getElem hil, hex]
        have HNX := Lib.hid hnx
        obtain ⟨D, ds, hO, hM, hN, hD⟩ := HT.out.2
        obtain ⟨kl, hkl⟩ := ekey (x : Int) (y : Int) (WalkArith.wf_i64 (by omega)) (WalkArith.wf_i64 (by omega))
        have HKL := Lib.hid hkl
        have HM := Lib.hid hM
        have HN := Lib.hid hN
        have HD := Lib.hid hD
        have HFR := Lib.hid HT.out.1
        have hO2 := hO.alloc (.cells #[.int .i64 (x : Nat), .int .i64 (y : Nat)] 34)
        have HOO := Lib.hid hO2
        have HBE := Lib.hid (Blk.new_ wr 34 #[.int .i64 (x : Nat), .int .i64 (y : Nat)] rfl)
        have hlen : i < maxLen := by unfold maxLen; omega
        have i3 : (0 : Int) ≤ (i : Int) := by omega
        have i4 : (i : Int) < (mz : Int) := by omega
        have HLT := Lib.hid hlt
        clear HT p1 p2 hb1b hblk hex hnx hO hM hN hD hkl hO2 hb1 hil hlt
        go_wp2_with (first | (at_mapUpdate; refine wpList_mapUpdate_own _ rfl _ _ _ 45 rfl 34 3 elaw Try.underlying45 _ w6.heap.size i D rfl HOO.out hlen _ _ kl rfl rfl HKL.out _ [] (plainElem_int Try.underlying3 (by decide)) ?_; intro wu hownu hgrowu) | fail)
        have HNN : Hid (Fr (fun k => k = w6.heap.size) w9 wu ∧ EState wu w6.heap.size (i + 1) (E0.take (i + 1))) := Lib.hid (by
          obtain ⟨ds', e1, e2, e3⟩ := HM.out.put (x := ((x : Int), (y : Int))) HKL.out
          refine ⟨(HFR.out.trans (Fr.of_below (F := fun _ => False) ((Below.refl _ wr).alloc (Nat.le_refl _) _)) (fun _ _ e => e.elim)).trans (Fr.of_grown (F := fun k => k = w6.heap.size) hgrowu (fun b e => by cases e; rfl)) (fun _ _ e => e), _, ds', hownu, e1, e3 HN.out, fun z => ?_⟩
          rw [e2, HD.out, HNX.out, List.mem_append, List.mem_singleton])
        clear hownu hgrowu HM HN HD HFR HOO HBE HKL HNX hlen q1 q2
        go_wp2_with fail
        go_roundw
        case rel => exact ⟨i + 1, by have := HLT.out; omega, by go_num, HNN⟩
        case measure => simp [intOf]; have := HLT.out; omega
      · obtain rfl : i = mz := by omega
        have hES := HT.out.2
        rw [List.take_of_length_le (by have := HMZ.out; omega)] at hES
        have HFR := Lib.hid HT.out.1
        have HES2 := Lib.hid hES
        clear HT hES
        generalize hwx : wr = wx at *
        clear hwx
        have HOX : Hid (OAt wx w.heap.size F6 o Mk L' P' A' ∧ Below w.heap.size w wx ∧ w6.heap.size < wx.heap.size) := Lib.hid (by
          have h9 := HO6.out.ord.below HL9.out
          refine ⟨h9.fr HFR.out (fun k e e2 => by have := (HO6.out.f1 k e).2; omega), HO6.out.low.trans ((HL9.out.trans (HFR.out.low (fun k e => by omega) (by omega))).mono HO6.out.low.size), by have := HFR.out.size; omega⟩)
        clear HO6 HL9 HFR HEZ HEZB HMZ HEA
        go_wp2_with fail
        refine Calls.mono (edges_o HOX.out.1 HST6.out.ok (by omega)) ?_
        rintro e w10 ⟨A10, c10, rfl, b10, o10⟩
        obtain ⟨m2, hm2⟩ : ∃ m2, m2 = (edgesTo L' Mk).length := ⟨_, rfl⟩
        have hm2b : m2 ≤ 1000000000000 := by rw [hm2]; have := Gr.edgesTo_length (HST6.out.ok.rises (by omega)) Mk; omega
        rw [← hm2] at o10 ⊢
        have HM2 := Lib.hid hm2
        have HE10 := Lib.hid (EdgesAt.of_own o10).1
        have HO10 : Hid (OAt w10 w.heap.size F6 o Mk L' P' A' ∧ Below w.heap.size w w10 ∧ w6.heap.size < w10.heap.size) := Lib.hid ⟨HOX.out.1.below b10, HOX.out.2.1.trans (b10.mono HOX.out.2.1.size), Nat.lt_of_lt_of_le HOX.out.2.2 b10.size⟩
        have HES10 := Lib.hid (HES2.out.keep (b10.block _ HOX.out.2.2))
        clear HOX HES2 b10 o10 hm2
        go_wp2_with fail
        go_loopw [112] (fun ix wr => ∃ i : Nat, i ≤ m2 ∧ ix = .int .i64 i ∧ Hid (Below w10.heap.size w10 wr)) (fun ix _ => m2 - (intOf ix).toNat)
        case atStart => exact ⟨0, Nat.zero_le _, rfl, Lib.hid (Below.refl _ _)⟩
        case round =>
          obtain ⟨i2, hi2, rfl, HB⟩ := hrel
          by_cases hlt2 : i2 < m2
          · have hil2 : i2 < (edgesTo L' Mk).length := by have := HM2.out; omega
            obtain ⟨b1, off1, rfl, hb1, p1, p2⟩ := HE10.out i2 hil2
            obtain ⟨x, y, hex, hx, hy, hE⟩ := edge_of HST6.out.ok hil2
            rw [hex] at p1 p2
            have q1 := (HB.out.cell (p := ⟨b1, _, none⟩) hb1).trans p1
            have q2 := (HB.out.cell (p := ⟨b1, _, none⟩) hb1).trans p2
            have hup := HST6.out.up x y hE
            have hin := (HED6.out x y).1 hE
            obtain ⟨wb, hwb⟩ : ∃ wb, wb = wr.alloc (.cells #[.int .i64 (x : Nat), .int .i64 (y : Nat)] 34) := ⟨_, rfl⟩
            have hbb : Below wr.heap.size wr wb := by rw [hwb]; exact (Below.refl _ _).alloc (Nat.le_refl _) _
            have hb10 : Below w10.heap.size w10 wb := HB.out.trans (hbb.mono HB.out.size)
            have HOB := Lib.hid (HO10.out.1.below hb10)
            have hlk := (HES10.out.keep (hb10.block _ HO10.out.2.2)).look hin (WalkArith.wf_i64 (by omega)) (WalkArith.wf_i64 (by omega))
            have HPX := Lib.hid (place_w HOB.out HST6.out.perm x hx)
            have HPY := Lib.hid (place_w HOB.out HST6.out.perm y hy)
            have HLK := Lib.hid hlk
            have HBE : Hid (Blk wb wr.heap.size 34 #[.int .i64 (x : Nat), .int .i64 (y : Nat)]) := Lib.hid (by rw [hwb]; exact Blk.new_ _ _ _ rfl)
            generalize P'.getD x 0 = px at *
            generalize P'.getD y 0 = py at *
            have HBN : Hid (Below w10.heap.size w10 wb) := Lib.hid hb10
            have i3 : (0 : Int) ≤ (i2 : Int) := by omega
            have i4 : (i2 : Int) < (m2 : Int) := by omega
            have HLT := Lib.hid hlt2
            have hpq : ¬ (py : Int) ≤ (px : Int) := by omega
            have hpq2 : (px : Int) < (py : Int) := by omega
            clear p1 p2 hex hE hin hbb hb10 hlk hil2 hb1 hlt2
            subst hwb
            go_wp2_with fail
            refine Calls.mono HPX.out ?_
            rintro e w' ⟨rfl, rfl⟩
            go_wp2_with fail
            refine Calls.mono HPY.out ?_
            rintro e w' ⟨rfl, rfl⟩
            have hlk := HLK.out
            go_wp2_with fail
            go_roundw
            case rel => exact ⟨i2 + 1, by have := HLT.out; omega, by go_num, HBN⟩
            case measure => simp [intOf]; have := HLT.out; omega
          · obtain rfl : i2 = m2 := by omega
            have HO11 := Lib.hid (HO10.out.1.below HB.out)
            have HL11 := Lib.hid (HO10.out.2.1.trans (HB.out.mono HO10.out.2.1.size))
            have HES11 := Lib.hid (HES10.out.keep (HB.out.block _ HO10.out.2.2))
            have hs11 : w6.heap.size < wr.heap.size := Nat.lt_of_lt_of_le HO10.out.2.2 HB.out.size
            clear HO10 HES10 HB HE10
            go_wp2_with fail
            refine Calls.mono (edges_o HO11.out HST6.out.ok (by omega)) ?_
            rintro e w12 ⟨A12, c12, rfl, b12, -⟩
            rw [← HM2.out]
            have HO12 := Lib.hid (HO11.out.below b12)
            have HL12 := Lib.hid (HL11.out.trans (b12.mono HL11.out.size))
            obtain ⟨D, ds, hO, hM, hN, hD⟩ := HES11.out.keep (b12.block _ hs11)
            have hsz : Maps.size D = i2 := by
              rw [hM.2.2, HM2.out]
              refine nodup_same hN (edgesTo_nodup HST6.out.ok Mk) fun z => ?_
              rw [hD]
              exact HZN.out z
            have hlen := hO.len Try.underlying45 3
            rw [hsz] at hlen
            have eqm : ((i2 : Int) == (i2 : Int)) = true := by simp
            clear HO11 HL11 HES11 b12 hO hM hN hD hsz
            go_wp2_with fail
            refine Calls.mono (len_o HO12.out) ?_
            rintro e w' ⟨rfl, rfl⟩
            have eMk : ((Mk : Int) == (Mk : Int)) = true := by simp
            have hak := HAK.out
            clear hlen
            go_wp2_with fail
            refine Calls.mono (awakeB_any _) ?_
            rintro e w9 ⟨rfl, b9⟩
            have HB9 := Lib.hid (HL12.out.trans (b9.mono HL12.out.size))
            clear HL12 b9
            go_wp2_with fail
            go_ret
            exact ⟨rfl, HB9.out⟩
end Go.Proofs.Ytelplccbcbegkaa.OrW
