/-
  The walk of JournalFull.
-/
import Derived.Test.YtmkijkkddoamgaaJourAwake
import Derived.Test.YtmkijkkddoamgaaJourBlow
import Derived.Test.YtmkijkkddoamgaaJourFullPl
namespace Go.Proofs.Ytmkijkkddoamgaa.Jo
set_option linter.unusedVariables false
open Go Go.RowKit Go.Shelf Go.Proofs Go.Proofs.Ytmkijkkddoamgaa Go.Proofs.Ytmkijkkddoamgaa.Wd Go.Proofs.Ytmkijkkddoamgaa.Dk Go.Proofs.Ytmkijkkddoamgaa.Hd Go.Proofs.Ytmkijkkddoamgaa.HdW Go.Proofs.Ytmkijkkddoamgaa.BatW
open Go.Proofs.Ytmkijkkddoamgaa.Bat (B)
theorem ok_nums {lv L al fr q : Nat} (hx : lv < 2 ∧ L ≤ al ∧ fr + L = al) (hq : q ≤ fr) (ha : al ≤ 400) : wrap64 ((L : Int) + (q : Int)) = ((L + q : Nat) : Int) ∧ wrap64 ((fr : Int) - (q : Int)) = ((al - (L + q) : Nat) : Int) ∧ wrap64 ((al : Int) - (q : Int)) = ((al - q : Nat) : Int) := by
  refine ⟨?_, ?_, ?_⟩
  · rw [show (L : Int) + (q : Int) = ((L + q : Nat) : Int) by omega]; exact IntWalk.wrap64_in _ (by omega)
  · rw [show (fr : Int) - (q : Int) = ((al - (L + q) : Nat) : Int) by omega]; exact IntWalk.wrap64_in _ (by omega)
  · rw [show (al : Int) - (q : Int) = ((al - q : Nat) : Int) by omega]; exact IntWalk.wrap64_in _ (by omega)
theorem sum_num {lv L al fr : Nat} (hx : lv < 2 ∧ L ≤ al ∧ fr + L = al) (ha : al ≤ 400) : wrap64 ((fr : Int) + (L : Int)) = (al : Int) := by
  rw [show (fr : Int) + (L : Int) = (al : Int) by omega]; exact IntWalk.wrap64_in _ (by omega)
theorem small_num {i : Nat} (h : i < 1000) : wrap64 (i : Int) = (i : Int) := IntWalk.wrap64_in _ (by omega)
theorem next_num {i : Nat} (h : i < 1000) : wrap64 ((i : Int) + 1) = (i : Int) + 1 := IntWalk.wrap64_in _ (by omega)
theorem meas_lt {i n : Nat} (h : i < n) : n - (intOf (.int .i64 ((i : Int) + 1))).toNat < n - (intOf (.int .i64 (i : Int))).toNat := by simp [intOf]; omega
theorem head_live (a b c : Int) (w : World) : (Instr.field 35 (.agg #[.int .u64 a, .int .u64 b, .int .u8 c]) 2).run Try.prog w = .ok (.int .u8 c) w := by kernel_rfl
set_option maxRecDepth 100000 in
set_option maxHeartbeats 16000000 in
theorem full_walk (cp : Nat) (hcp : cp < 65536) (A : Option Addr) (n c : Nat) (ls : List Bl) (hn : n = ls.length) (hnc : n ≤ c) (hcm : c ≤ maxLen) (w : World) (hI : BlsAt w w.heap.size A ls) :
    Calls Try.prog 5 #[.int .u16 (cp : Nat), .slice A n c] w fun e w' => e = .returned (.bool true) ∧ Below w.heap.size w w' := by
  obtain ⟨al, hal⟩ : ∃ al, al = cp % 401 := ⟨_, rfl⟩
  have hal1 : al ≤ 400 := by omega
  have HI := Lib.hid hI
  have HN := Lib.hid hn
  have hnm : n ≤ maxLen := Nat.le_trans hnc hcm
  unfold maxLen at hnm
  have HM := Lib.hid (made_any al (by omega) w)
  have w1 : wrap64 (al : Int) = (al : Int) := IntWalk.wrap64_in _ (by omega)
  have t1 : (cp : Int).tmod 401 = (al : Int) := by rw [Int.tmod_eq_emod_of_nonneg (Int.natCast_nonneg _)]; omega
  have t4 : IntKind.u16.wrap (al : Int) = (al : Int) := IntWalk.u16_in _ (by omega)
  clear hI hn hal hnc hcm
  go_enter Try.func5, Try.ntmps5
  go_upto_region 2 with fail
  clear t1 t4 w1
  go_wp2_with fail
  refine Calls.mono HM.out ?_
  rintro e w1 ⟨jb, F, s, rfl, hM⟩
  have HJ := Lib.hid hM.j
  have HB := Lib.hid hM.below
  have HLO := Lib.hid (Nat.le_of_lt hM.jlo)
  have HF := Lib.hid (FI.new hM.n)
  clear HM hM
  by_cases h20 : 20 < n
  · have u1 : (20 : Int) < (n : Int) := by omega
    go_wp2_with fail
    refine Calls.mono (awake_any w1) ?_
    rintro e w2 ⟨rfl, hb⟩
    have HB2 := Lib.hid (HB.out.trans (hb.mono HB.out.size))
    clear hb
    go_wp2_with fail
    go_ret
    exact ⟨rfl, HB2.out⟩
  have u1 : ¬ (20 : Int) < (n : Int) := by omega
  obtain ⟨g, hg⟩ : ∃ g, g = w.heap.size := ⟨_, rfl⟩
  rw [← hg] at HJ HLO ⊢
  have HG := Lib.hid hg
  have hgB : Hid (∀ a b : World, Below g a b → w.heap.size ≤ a.heap.size → Below w.heap.size w a → Below w.heap.size w b) := Lib.hid fun a b h1 h2 h3 => h3.trans (hg ▸ h1)
  clear hg
  go_wp2_with fail
  go_loopw [39] (fun ix wr => ∃ (i L : Nat) (F : Nat → Prop) (s : DS) (y : H), i ≤ n ∧ ix = .int .i64 i ∧ Hid (JAt wr g F g jb s y) ∧ Hid (Below w.heap.size w wr) ∧ Hid (FI s y al L i)) (fun ix _ => n - (intOf ix).toNat)
  case atStart => exact ⟨0, 0, F, s, _, Nat.zero_le _, rfl, HJ, HB, HF⟩
  case round =>
    clear HJ HB HF
    obtain ⟨i, L, F, s, y, hi, rfl, HJ, HB, HF⟩ := hrel
    by_cases hlt : i < n
    · have hil : i < ls.length := by rw [← HN.out]; exact hlt
      obtain ⟨b, off, rfl, hb, -, v, hsr, hcw⟩ := HI.out i hil
      have hc : ∀ k u, (blC v ls[i])[k]? = some u → wr.cell? ⟨b, off + i * 14 + k, none⟩ = some u := fun k u hu => (HB.out.cell (p := ⟨b, _, none⟩) hb).trans (hcw k u hu)
      clear hcw
      obtain ⟨⟨rows, tn, cr, at_, part, keep, again, other⟩, hx⟩ : ∃ x, ls[i] = x := ⟨_, rfl⟩
      rw [hx] at hsr hc
      obtain ⟨A1, c1, rfl, hl1, hm1, hr1⟩ := hsr
      have HR := Lib.hid hr1
      dsimp only at hl1 HR
      obtain ⟨m, hm⟩ : ∃ m, m = rows.length := ⟨_, rfl⟩
      rw [← hm] at hl1 hc
      have HMM := Lib.hid hm
      have i1 : (0 : Int) ≤ (i : Int) := by omega
      have i2 : (i : Int) < (n : Int) := by omega
      have hi20 : i < 20 := by omega
      clear hil hx hr1 hm
      have c0_ : wr.cell? ⟨b, off + i * 14, none⟩ = some (.slice A1 m c1) := hc 0 _ rfl
      have c1_ : wr.cell? ⟨b, off + i * 14 + 1, none⟩ = some (.bool tn) := hc 1 _ rfl
      have c2_ : wr.cell? ⟨b, off + i * 14 + 2, none⟩ = some (.bool cr) := hc 2 _ rfl
      have c3_ : wr.cell? ⟨b, off + i * 14 + 3, none⟩ = some (.int .u8 (at_ : Nat)) := hc 3 _ rfl
      have c4_ : wr.cell? ⟨b, off + i * 14 + 4, none⟩ = some (.int .u8 (part : Nat)) := hc 4 _ rfl
      have c5_ : wr.cell? ⟨b, off + i * 14 + 5, none⟩ = some (.int .i64 (keep 0)) := hc 5 _ rfl
      have c6_ : wr.cell? ⟨b, off + i * 14 + 6, none⟩ = some (.int .i64 (keep 1)) := hc 6 _ rfl
      have c7_ : wr.cell? ⟨b, off + i * 14 + 7, none⟩ = some (.int .i64 (keep 2)) := hc 7 _ rfl
      have c8_ : wr.cell? ⟨b, off + i * 14 + 8, none⟩ = some (.int .i64 (keep 3)) := hc 8 _ rfl
      have c9_ : wr.cell? ⟨b, off + i * 14 + 9, none⟩ = some (.int .u8 (again : Nat)) := hc 9 _ rfl
      have c10_ : wr.cell? ⟨b, off + i * 14 + 10, none⟩ = some (.int .i64 (other 0)) := hc 10 _ rfl
      have c11_ : wr.cell? ⟨b, off + i * 14 + 11, none⟩ = some (.int .i64 (other 1)) := hc 11 _ rfl
      have c12_ : wr.cell? ⟨b, off + i * 14 + 12, none⟩ = some (.int .i64 (other 2)) := hc 12 _ rfl
      have c13_ : wr.cell? ⟨b, off + i * 14 + 13, none⟩ = some (.int .i64 (other 3)) := hc 13 _ rfl
      clear hc
      go_upto_region 8 with fail
      obtain ⟨cs, hcs⟩ : ∃ cs : Array Value, cs = #[.slice A1 m c1, .bool tn, .bool cr, .int .u8 (at_ : Nat), .int .u8 (part : Nat), .int .i64 (keep 0), .int .i64 (keep 1), .int .i64 (keep 2), .int .i64 (keep 3), .int .u8 (again : Nat), .int .i64 (other 0), .int .i64 (other 1), .int .i64 (other 2), .int .i64 (other 3)] := ⟨_, rfl⟩
      rw [← hcs]
      have k0 : Hid (cs[0]? = some (.slice A1 m c1)) := Lib.hid (by rw [hcs]; rfl)
      have k1 : Hid (cs[1]? = some (.bool tn)) := Lib.hid (by rw [hcs]; rfl)
      have hb := (Below.refl wr.heap.size wr).alloc (Nat.le_refl _) (.cells cs 69)
      have q10 := Blk.new_ wr 69 cs rfl
      have HQ : Hid (BF (wr.alloc (.cells cs 69)) F wr.heap.size 69 cs) := Lib.hid ⟨q10, fun e => by have := (HJ.out.at_.lt e).2; omega⟩
      have HJ_ := Lib.hid (HJ.out.below hb)
      have HB_ := Lib.hid (HB.out.trans (hb.mono HB.out.size))
      clear hb HJ HB q10 hcs c0_ c1_ c2_ c3_ c4_ c5_ c6_ c7_ c8_ c9_ c10_ c11_ c12_ c13_
      have HJ := HJ_
      have HB := HB_
      clear HJ_ HB_
      generalize wr.alloc (.cells cs 69) = w2 at *
      generalize wr.heap.size = g10 at *
      have HRW : Hid (∀ W, Below w.heap.size w W → BRows W W.heap.size A1 rows) := Lib.hid fun W hW => (HR.out.below hW).more hW.size
      have HMX : Hid (m ≤ maxLen) := Lib.hid (Nat.le_trans hl1 hm1)
      have HLT : Hid (i < n ∧ i < 20 ∧ al ≤ 400) := Lib.hid ⟨hlt, hi20, hal1⟩
      clear HR hl1 hm1 hlt hi20 hi i1 i2 hal1 hnm hb
      -- Bytes
      have d0 := Blk.at_ HQ.out.1 0 k0.out
      go_wp2_with fail
      refine Calls.mono (bytesof_any A1 m c1 rows HMM.out HMX.out w2 (HRW.out _ HB.out)) ?_
      rintro e w3 ⟨z, rfl, rfl, z1, z2, -⟩
      by_cases hz : 1000 < z
      · go_wp2_with fail
        refine Calls.mono (awake_any w2) ?_
        rintro e w3 ⟨rfl, hb⟩
        have HB2 := Lib.hid (HB.out.trans (hb.mono HB.out.size))
        clear hb
        go_wp2_with fail
        go_ret
        exact ⟨rfl, HB2.out⟩
      by_cases h50 : 50 < m
      · have u2 : (50 : Int) < (m : Int) := by omega
        go_wp2_with fail
        refine Calls.mono (awake_any w2) ?_
        rintro e w3 ⟨rfl, hb⟩
        have HB2 := Lib.hid (HB.out.trans (hb.mono HB.out.size))
        clear hb
        go_wp2_with fail
        go_ret
        exact ⟨rfl, HB2.out⟩
      have u2 : ¬ (50 : Int) < (m : Int) := by omega
      go_upto_region 10 with fail
      clear z1 z2 u2 hz h50
      go_wp2_with fail
      -- Long
      refine Calls.mono (blong_any A1 m c1 rows HMM.out HMX.out w2 (HRW.out _ HB.out)) ?_
      rintro e w3 ⟨rfl, rfl⟩
      obtain ⟨q, hq⟩ : ∃ q, q = Bat.longB rows := ⟨_, rfl⟩
      obtain ⟨er, her⟩ : ∃ er, er = Bat.wrong rows := ⟨_, rfl⟩
      rw [← hq, ← her]
      have HLQ := Lib.hid hq
      have HER := Lib.hid her
      clear hq her d0
      go_wp2_with fail
      -- Free, Size
      obtain ⟨a, ep, lv⟩ := y
      obtain ⟨f1, f2, f3, f4, -, -⟩ := HF.out.facts
      have HF1 := Lib.hid f1
      have HF2 := Lib.hid f2
      obtain ⟨fr, hfr⟩ : ∃ fr, fr = al - L := ⟨_, rfl⟩
      have HX : Hid (lv < 2 ∧ L ≤ al ∧ fr + L = al) := Lib.hid ⟨f4, f3, by omega⟩
      rw [← hfr] at HF1
      have HFR := Lib.hid hfr
      clear f1 f2 f3 f4 hfr
      have hS := jfree_any HJ.out
      rw [HF1.out] at hS
      refine Calls.mono hS ?_
      clear hS
      rintro e w3 ⟨rfl, hb⟩
      have HJ_ := Lib.hid (HJ.out.below hb)
      have HB_ := Lib.hid (HB.out.trans (hb.mono HB.out.size))
      have HQ_ := Lib.hid (HQ.out.next (Fr.of_below hb F) (F' := F) fun _ h => .inl h)
      clear hb HJ HB HQ
      have HJ := HJ_
      have HB := HB_
      have HQ := HQ_
      clear HJ_ HB_ HQ_
      go_wp2_with fail
      have hS := jsize_any HJ.out
      rw [HF2.out] at hS
      refine Calls.mono hS ?_
      clear hS
      rintro e w4 ⟨rfl, hb⟩
      have HJ_ := Lib.hid (HJ.out.below hb)
      have HB_ := Lib.hid (HB.out.trans (hb.mono HB.out.size))
      have HQ_ := Lib.hid (HQ.out.next (Fr.of_below hb F) (F' := F) fun _ h => .inl h)
      clear hb HJ HB HQ
      have HJ := HJ_
      have HB := HB_
      have HQ := HQ_
      clear HJ_ HB_ HQ_
      go_wp2_with fail
      -- Head, Read, Anew
      have hS := jhead_any HJ.out
      simp only [hv] at hS
      refine Calls.mono hS ?_
      clear hS
      rintro e w5 ⟨rfl, hb⟩
      have HJ_ := Lib.hid (HJ.out.below hb)
      have HB_ := Lib.hid (HB.out.trans (hb.mono HB.out.size))
      have HQ_ := Lib.hid (HQ.out.next (Fr.of_below hb F) (F' := F) fun _ h => .inl h)
      clear hb HJ HB HQ
      have HJ := HJ_
      have HB := HB_
      have HQ := HQ_
      clear HJ_ HB_ HQ_
      have hfd := head_live a ep lv
      have t1 := small_num (i := lv) (Nat.lt_trans HX.out.1 (by decide))
      obtain ⟨bb, hbb⟩ : ∃ bb, bb = rd s (lv : Nat) := ⟨_, rfl⟩
      have HBB := Lib.hid hbb
      have HF2' : Hid (L = bb.length) := Lib.hid (by rw [hbb]; exact HF2.out.symm)
      have hRD := read_any HJ.out.at_ (lv : Nat)
      rw [← hbb] at hRD
      have HRD := Lib.hid hRD
      clear hRD hbb
      go_wp2_with fail
      refine Calls.mono HRD.out ?_
      rintro e w6 ⟨v6, rfl, hown, hb⟩
      obtain ⟨A6, c6, rfl, hc6, hm6, hJ6⟩ := own_bytes hown
      rw [← HF2'.out] at hc6 hm6 ⊢
      clear hown HRD hfd t1
      have HJ_ := Lib.hid (HJ.out.below hb)
      have HB_ := Lib.hid (HB.out.trans (hb.mono HB.out.size))
      have HQ_ := Lib.hid (HQ.out.next (Fr.of_below hb F) (F' := F) fun _ h => .inl h)
      clear hb HJ HB HQ
      have HJ := HJ_
      have HB := HB_
      have HQ := HQ_
      clear HJ_ HB_ HQ_
      go_wp2_with fail
      refine Calls.mono (RecW.anew_any A6 c6 bb L HF2'.out (by rw [← HF2'.out]; have := HX.out; have := HLT.out; omega) w6 hJ6) ?_
      rintro e w7 ⟨v7, rfl, hown, hb⟩
      obtain ⟨A7, c7, rfl⟩ := own_form hown
      obtain ⟨_, _, ea, h7, -, -⟩ := own_bytes hown
      cases ea
      have HZ7 := Lib.hid (own_rowz hown)
      have hlo7 : Hid (∀ k, Since w6.heap.size w7.heap.size k → ¬ F k ∧ k ≠ jb ∧ k < w7.heap.size) := Lib.hid fun k hk => ⟨fun e => by have := (HJ.out.at_.lt e).2; have := hk.1; omega, fun e => by have := HJ.out.bj.1.lt; have := hk.1; omega, hk.2⟩
      generalize Since w6.heap.size w7.heap.size = Z at *
      clear hown hJ6 hm6 hc6
      have HJ_ := Lib.hid (HJ.out.below hb)
      have HB_ := Lib.hid (HB.out.trans (hb.mono HB.out.size))
      have HQ_ := Lib.hid (HQ.out.next (Fr.of_below hb F) (F' := F) fun _ h => .inl h)
      clear hb HJ HB HQ
      have HJ := HJ_
      have HB := HB_
      have HQ := HQ_
      clear HJ_ HB_ HQ_
      have v1 := sum_num HX.out HLT.out.2.2
      have d1 := Blk.at_ HQ.out.1 1 k1.out
      go_upto_region 16 with fail
      clear v1
      rcases (by cases tn <;> simp : tn = true ∨ tn = false) with htn | htn
      · -- switched
        subst htn
        have d0 := Blk.at_ HQ.out.1 0 k0.out
        go_wp2_with fail
        clear d0 d1
        have hA := jswitch_any HJ.out A1 m c1 rows HMM.out HMX.out (HRW.out _ HB.out)
        by_cases hw : er ≠ 0
        · have he : switchJ s ⟨a, ep, lv⟩ rows = (er, s, (⟨a, ep, lv⟩ : H)) := by rw [HER.out]; exact JN.switch_wrong (s := s) (y := ⟨a, ep, lv⟩) rows (by rw [← HER.out]; exact hw)
          rw [he] at hA
          refine Calls.mono hA ?_
          rintro e w8 ⟨rfl, hN⟩
          obtain ⟨F', hJ8, hB8, hs8⟩ := HJ.out.saved (x := (s, (⟨a, ep, lv⟩ : H))) HJ.out.wf HJ.out.lv HLO.out hN
          have hfx : Fr (fun k => F k ∨ k = jb) w7 w8 := by obtain ⟨_, _, _, h, _⟩ := hN; exact h
          have HQ8 := Lib.hid (show BF w8 F' g10 69 cs from by
            obtain ⟨F'', h1, h2, h3, h4⟩ := hN
            exact ⟨(HQ.out.atJ (F' := F') (by decide) HJ.out.bj.1 h3 hs8).1, out_of HQ.out.1.lt HQ.out.2 hs8⟩)
          have hlo8 : Hid (∀ k, Z k → k < w8.heap.size) := Lib.hid fun k hk => Nat.lt_of_lt_of_le (hlo7.out k hk).2.2 hfx.size
          have HJ8 := Lib.hid hJ8
          have HB8 := Lib.hid (hgB.out _ _ hB8 HB.out.size HB.out)
          clear hJ8 hB8 hs8 HJ HB HQ hA he
          have HJ := HJ8
          have HB := HB8
          have d1 := Blk.at_ HQ8.out.1 1 k1.out
          clear HJ8 HB8
          dsimp only
          have x1 : ((er : Int) != 0) = true := by rw [bne_iff_ne]; omega
          have x2 : ¬ (er : Int) = 0 := by omega
          clear hw
          have HZ8 := Lib.hid (HZ7.out.keep (SameZ.of_fr hfx (fun k hk => ⟨(hlo7.out k hk).2.2, fun e => e.elim (hlo7.out k hk).1 (hlo7.out k hk).2.1⟩)))
          clear hN hfx HZ7
          go_wp2_with fail
          -- Size, Free, Head, Read, Same
          have hS := jsize_any HJ.out
          rw [HF2.out] at hS
          refine Calls.mono hS ?_
          clear hS
          rintro e w9 ⟨rfl, hb⟩
          have HZ9 := Lib.hid (HZ8.out.keep (SameZ.of_fr (Fr.of_below hb (fun _ => False)) fun k hk => ⟨hlo8.out k hk, fun h => h⟩))
          have hlo9 : Hid (∀ k, Z k → k < w9.heap.size) := Lib.hid fun k hk => Nat.lt_of_lt_of_le (hlo8.out k hk) hb.size
          have HJ_ := Lib.hid (HJ.out.below hb)
          have HB_ := Lib.hid (HB.out.trans (hb.mono HB.out.size))
          clear hb HJ HB HZ8 hlo8
          go_wp2_with fail
          have hS := jfree_any HJ_.out
          rw [HF1.out] at hS
          refine Calls.mono hS ?_
          clear hS
          rintro e w10 ⟨rfl, hb⟩
          have HZ8 := Lib.hid (HZ9.out.keep (SameZ.of_fr (Fr.of_below hb (fun _ => False)) fun k hk => ⟨hlo9.out k hk, fun h => h⟩))
          have hlo8 : Hid (∀ k, Z k → k < w10.heap.size) := Lib.hid fun k hk => Nat.lt_of_lt_of_le (hlo9.out k hk) hb.size
          have HJ := Lib.hid (HJ_.out.below hb)
          have HB := Lib.hid (HB_.out.trans (hb.mono HB_.out.size))
          clear hb HJ_ HB_ HZ9 hlo9
          go_wp2_with fail
          have hS := jhead_any HJ.out
          simp only [hv] at hS
          refine Calls.mono hS ?_
          clear hS
          rintro e w11 ⟨rfl, hb⟩
          have HZ9 := Lib.hid (HZ8.out.keep (SameZ.of_fr (Fr.of_below hb (fun _ => False)) fun k hk => ⟨hlo8.out k hk, fun h => h⟩))
          have hlo9 : Hid (∀ k, Z k → k < w11.heap.size) := Lib.hid fun k hk => Nat.lt_of_lt_of_le (hlo8.out k hk) hb.size
          have HJ_ := Lib.hid (HJ.out.below hb)
          have HB_ := Lib.hid (HB.out.trans (hb.mono HB.out.size))
          clear hb HJ HB HZ8 hlo8
          have hfd := head_live a ep lv
          have t1 := small_num (i := lv) (Nat.lt_trans HX.out.1 (by decide))
          have hRD := read_any HJ_.out.at_ (lv : Nat)
          rw [← HBB.out] at hRD
          have HRD := Lib.hid hRD
          clear hRD
          go_wp2_with fail
          refine Calls.mono HRD.out ?_
          rintro e w12 ⟨v12, rfl, hown, hb⟩
          obtain ⟨A12, c12, rfl, hc12, hm12, hJ12⟩ := own_bytes hown
          have hHZ := (HZ9.out.keep (SameZ.of_fr (Fr.of_below hb (fun _ => False)) fun k hk => ⟨hlo9.out k hk, fun h => h⟩)).row (k := w12.heap.size) fun k hk => Nat.lt_of_lt_of_le (hlo9.out k hk) hb.size
          have HJ := Lib.hid (HJ_.out.below hb)
          have HB := Lib.hid (HB_.out.trans (hb.mono HB_.out.size))
          have hSM := RecW.same_any A7 A12 c7 c12 bb bb L L HF2'.out HF2'.out w12 hHZ hJ12
          rw [beq_self_eq_true] at hSM
          rw [← HF2'.out]
          have HSM := Lib.hid hSM
          clear hown HRD hfd t1 hb HJ_ HB_ HZ9 hlo9 hHZ hSM hJ12 hm12 hc12
          go_wp2_with fail
          refine Calls.mono HSM.out ?_
          rintro e w13 ⟨rfl, rfl⟩
          clear HSM
          have HWI := Lib.hid (next_num (i := i) (Nat.lt_trans HLT.out.2.1 (by decide)))
          go_wp2_with fail
          go_roundw
          case rel => exact ⟨i + 1, L, F', s, ⟨a, ep, lv⟩, HLT.out.1, by rw [HWI.out]; rfl, HJ, HB, Lib.hid HF.out.more⟩
          case measure => rw [HWI.out]; exact meas_lt HLT.out.1
        have hw0 : er = 0 := by omega
        subst hw0
        clear hw
        by_cases hfu : fr < q
        · have he : switchJ s ⟨a, ep, lv⟩ rows = (5, s, (⟨a, ep, lv⟩ : H)) := HF.out.s_full rows HER.out.symm (by rw [← HLQ.out, ← HFR.out]; exact hfu)
          rw [he] at hA
          refine Calls.mono hA ?_
          rintro e w8 ⟨rfl, hN⟩
          obtain ⟨F', hJ8, hB8, hs8⟩ := HJ.out.saved (x := (s, (⟨a, ep, lv⟩ : H))) HJ.out.wf HJ.out.lv HLO.out hN
          have hfx : Fr (fun k => F k ∨ k = jb) w7 w8 := by obtain ⟨_, _, _, h, _⟩ := hN; exact h
          have HQ8 := Lib.hid (show BF w8 F' g10 69 cs from by
            obtain ⟨F'', h1, h2, h3, h4⟩ := hN
            exact ⟨(HQ.out.atJ (F' := F') (by decide) HJ.out.bj.1 h3 hs8).1, out_of HQ.out.1.lt HQ.out.2 hs8⟩)
          have hlo8 : Hid (∀ k, Z k → k < w8.heap.size) := Lib.hid fun k hk => Nat.lt_of_lt_of_le (hlo7.out k hk).2.2 hfx.size
          have HJ8 := Lib.hid hJ8
          have HB8 := Lib.hid (hgB.out _ _ hB8 HB.out.size HB.out)
          clear hJ8 hB8 hs8 HJ HB HQ hA he
          have HJ := HJ8
          have HB := HB8
          have d1 := Blk.at_ HQ8.out.1 1 k1.out
          clear HJ8 HB8
          dsimp only
          have x1 : (fr : Int) < (q : Int) := by omega
          clear hfu
          have HZ8 := Lib.hid (HZ7.out.keep (SameZ.of_fr hfx (fun k hk => ⟨(hlo7.out k hk).2.2, fun e => e.elim (hlo7.out k hk).1 (hlo7.out k hk).2.1⟩)))
          clear hN hfx HZ7
          go_wp2_with fail
          -- Size, Free, Head, Read, Same
          have hS := jsize_any HJ.out
          rw [HF2.out] at hS
          refine Calls.mono hS ?_
          clear hS
          rintro e w9 ⟨rfl, hb⟩
          have HZ9 := Lib.hid (HZ8.out.keep (SameZ.of_fr (Fr.of_below hb (fun _ => False)) fun k hk => ⟨hlo8.out k hk, fun h => h⟩))
          have hlo9 : Hid (∀ k, Z k → k < w9.heap.size) := Lib.hid fun k hk => Nat.lt_of_lt_of_le (hlo8.out k hk) hb.size
          have HJ_ := Lib.hid (HJ.out.below hb)
          have HB_ := Lib.hid (HB.out.trans (hb.mono HB.out.size))
          clear hb HJ HB HZ8 hlo8
          go_wp2_with fail
          have hS := jfree_any HJ_.out
          rw [HF1.out] at hS
          refine Calls.mono hS ?_
          clear hS
          rintro e w10 ⟨rfl, hb⟩
          have HZ8 := Lib.hid (HZ9.out.keep (SameZ.of_fr (Fr.of_below hb (fun _ => False)) fun k hk => ⟨hlo9.out k hk, fun h => h⟩))
          have hlo8 : Hid (∀ k, Z k → k < w10.heap.size) := Lib.hid fun k hk => Nat.lt_of_lt_of_le (hlo9.out k hk) hb.size
          have HJ := Lib.hid (HJ_.out.below hb)
          have HB := Lib.hid (HB_.out.trans (hb.mono HB_.out.size))
          clear hb HJ_ HB_ HZ9 hlo9
          go_wp2_with fail
          have hS := jhead_any HJ.out
          simp only [hv] at hS
          refine Calls.mono hS ?_
          clear hS
          rintro e w11 ⟨rfl, hb⟩
          have HZ9 := Lib.hid (HZ8.out.keep (SameZ.of_fr (Fr.of_below hb (fun _ => False)) fun k hk => ⟨hlo8.out k hk, fun h => h⟩))
          have hlo9 : Hid (∀ k, Z k → k < w11.heap.size) := Lib.hid fun k hk => Nat.lt_of_lt_of_le (hlo8.out k hk) hb.size
          have HJ_ := Lib.hid (HJ.out.below hb)
          have HB_ := Lib.hid (HB.out.trans (hb.mono HB.out.size))
          clear hb HJ HB HZ8 hlo8
          have hfd := head_live a ep lv
          have t1 := small_num (i := lv) (Nat.lt_trans HX.out.1 (by decide))
          have hRD := read_any HJ_.out.at_ (lv : Nat)
          rw [← HBB.out] at hRD
          have HRD := Lib.hid hRD
          clear hRD
          go_wp2_with fail
          refine Calls.mono HRD.out ?_
          rintro e w12 ⟨v12, rfl, hown, hb⟩
          obtain ⟨A12, c12, rfl, hc12, hm12, hJ12⟩ := own_bytes hown
          have hHZ := (HZ9.out.keep (SameZ.of_fr (Fr.of_below hb (fun _ => False)) fun k hk => ⟨hlo9.out k hk, fun h => h⟩)).row (k := w12.heap.size) fun k hk => Nat.lt_of_lt_of_le (hlo9.out k hk) hb.size
          have HJ := Lib.hid (HJ_.out.below hb)
          have HB := Lib.hid (HB_.out.trans (hb.mono HB_.out.size))
          have hSM := RecW.same_any A7 A12 c7 c12 bb bb L L HF2'.out HF2'.out w12 hHZ hJ12
          rw [beq_self_eq_true] at hSM
          rw [← HF2'.out]
          have HSM := Lib.hid hSM
          clear hown HRD hfd t1 hb HJ_ HB_ HZ9 hlo9 hHZ hSM hJ12 hm12 hc12
          go_wp2_with fail
          refine Calls.mono HSM.out ?_
          rintro e w13 ⟨rfl, rfl⟩
          clear HSM
          have HWI := Lib.hid (next_num (i := i) (Nat.lt_trans HLT.out.2.1 (by decide)))
          go_wp2_with fail
          go_roundw
          case rel => exact ⟨i + 1, L, F', s, ⟨a, ep, lv⟩, HLT.out.1, by rw [HWI.out]; rfl, HJ, HB, Lib.hid HF.out.more⟩
          case measure => rw [HWI.out]; exact meas_lt HLT.out.1
        · obtain ⟨s9, he, hF9⟩ := HF.out.s_ok rows HER.out.symm (by rw [← HLQ.out, ← HFR.out]; omega) (by have := HLT.out; omega)
          rw [← HLQ.out] at hF9
          have HF9 := Lib.hid hF9
          clear hF9
          rw [he] at hA
          refine Calls.mono hA ?_
          rintro e w8 ⟨rfl, hN⟩
          obtain ⟨F', hJ8, hB8, hs8⟩ := HJ.out.saved (x := (s9, (⟨a + 1, ep, 1 - lv⟩ : H))) HF9.out.facts.2.2.2.2.1 HF9.out.facts.2.2.2.1 HLO.out hN
          have hfx : Fr (fun k => F k ∨ k = jb) w7 w8 := by obtain ⟨_, _, _, h, _⟩ := hN; exact h
          have HQ8 := Lib.hid (show BF w8 F' g10 69 cs from by
            obtain ⟨F'', h1, h2, h3, h4⟩ := hN
            exact ⟨(HQ.out.atJ (F' := F') (by decide) HJ.out.bj.1 h3 hs8).1, out_of HQ.out.1.lt HQ.out.2 hs8⟩)
          have hlo8 : Hid (∀ k, Z k → k < w8.heap.size) := Lib.hid fun k hk => Nat.lt_of_lt_of_le (hlo7.out k hk).2.2 hfx.size
          have HJ8 := Lib.hid hJ8
          have HB8 := Lib.hid (hgB.out _ _ hB8 HB.out.size HB.out)
          clear hJ8 hB8 hs8 HJ HB HQ hA he
          have HJ := HJ8
          have HB := HB8
          have d1 := Blk.at_ HQ8.out.1 1 k1.out
          clear HJ8 HB8
          dsimp only
          have x1 : ¬ (fr : Int) < (q : Int) := by omega
          have HQQ : Hid (q ≤ fr) := Lib.hid (by omega)
          clear hfu
          clear hN HZ7 hlo7
          go_wp2_with fail
          obtain ⟨g1, g2, g3, g4, -, -⟩ := HF9.out.facts
          have hS := jsize_any HJ.out
          rw [g2] at hS
          refine Calls.mono hS ?_
          clear hS
          rintro e w9 ⟨rfl, hb⟩
          have HJ_ := Lib.hid (HJ.out.below hb)
          have HB_ := Lib.hid (HB.out.trans (hb.mono HB.out.size))
          clear hb HJ HB
          have v2 := (ok_nums HX.out HQQ.out HLT.out.2.2).2.2
          obtain ⟨fr2, hfr2⟩ : ∃ x, x = al - q := ⟨_, rfl⟩
          rw [← hfr2] at v2 g1
          have HG1 := Lib.hid g1
          clear g1 g2 g3 g4 hfr2
          go_wp2_with fail
          have hS := jfree_any HJ_.out
          rw [HG1.out] at hS
          refine Calls.mono hS ?_
          clear hS
          rintro e w10 ⟨rfl, hb⟩
          have HJ := Lib.hid (HJ_.out.below hb)
          have HB := Lib.hid (HB_.out.trans (hb.mono HB_.out.size))
          clear hb HJ_ HB_
          have HWI := Lib.hid (next_num (i := i) (Nat.lt_trans HLT.out.2.1 (by decide)))
          go_wp2_with fail
          go_roundw
          case rel => exact ⟨i + 1, q, F', s9, _, HLT.out.1, by rw [HWI.out]; rfl, HJ, HB, HF9⟩
          case measure => rw [HWI.out]; exact meas_lt HLT.out.1
      · -- appended
        subst htn
        have d0 := Blk.at_ HQ.out.1 0 k0.out
        go_wp2_with fail
        clear d0 d1
        have hA := jappend_any HJ.out A1 m c1 rows HMM.out HMX.out (HRW.out _ HB.out)
        by_cases hw : er ≠ 0
        · have he : appendJ s ⟨a, ep, lv⟩ rows = (er, s) := by rw [HER.out]; exact JN.append_wrong (s := s) (y := ⟨a, ep, lv⟩) rows (by rw [← HER.out]; exact hw)
          rw [he] at hA
          refine Calls.mono hA ?_
          rintro e w8 ⟨rfl, hN⟩
          obtain ⟨F', hJ8, hB8, hs8⟩ := HJ.out.next hN
          have hfx : Fr (fun k => F k ∨ k = jb) w7 w8 := by obtain ⟨_, _, h, _⟩ := hN; exact h.more fun _ h => .inl (.inl h)
          have HQ8 := Lib.hid (show BF w8 F' g10 69 cs from by
            obtain ⟨F'', h1, h2, h3⟩ := hN
            exact ⟨HQ.out.1.fr h2 HQ.out.2, out_of HQ.out.1.lt HQ.out.2 hs8⟩)
          have hlo8 : Hid (∀ k, Z k → k < w8.heap.size) := Lib.hid fun k hk => Nat.lt_of_lt_of_le (hlo7.out k hk).2.2 hfx.size
          have HJ8 := Lib.hid hJ8
          have HB8 := Lib.hid (hgB.out _ _ hB8 HB.out.size HB.out)
          clear hJ8 hB8 hs8 HJ HB HQ hA he
          have HJ := HJ8
          have HB := HB8
          have d1 := Blk.at_ HQ8.out.1 1 k1.out
          clear HJ8 HB8
          dsimp only
          have x1 : ((er : Int) != 0) = true := by rw [bne_iff_ne]; omega
          have x2 : ¬ (er : Int) = 0 := by omega
          clear hw
          have HZ8 := Lib.hid (HZ7.out.keep (SameZ.of_fr hfx (fun k hk => ⟨(hlo7.out k hk).2.2, fun e => e.elim (hlo7.out k hk).1 (hlo7.out k hk).2.1⟩)))
          clear hN hfx HZ7
          go_wp2_with fail
          -- Size, Free, Head, Read, Same
          have hS := jsize_any HJ.out
          rw [HF2.out] at hS
          refine Calls.mono hS ?_
          clear hS
          rintro e w9 ⟨rfl, hb⟩
          have HZ9 := Lib.hid (HZ8.out.keep (SameZ.of_fr (Fr.of_below hb (fun _ => False)) fun k hk => ⟨hlo8.out k hk, fun h => h⟩))
          have hlo9 : Hid (∀ k, Z k → k < w9.heap.size) := Lib.hid fun k hk => Nat.lt_of_lt_of_le (hlo8.out k hk) hb.size
          have HJ_ := Lib.hid (HJ.out.below hb)
          have HB_ := Lib.hid (HB.out.trans (hb.mono HB.out.size))
          clear hb HJ HB HZ8 hlo8
          go_wp2_with fail
          have hS := jfree_any HJ_.out
          rw [HF1.out] at hS
          refine Calls.mono hS ?_
          clear hS
          rintro e w10 ⟨rfl, hb⟩
          have HZ8 := Lib.hid (HZ9.out.keep (SameZ.of_fr (Fr.of_below hb (fun _ => False)) fun k hk => ⟨hlo9.out k hk, fun h => h⟩))
          have hlo8 : Hid (∀ k, Z k → k < w10.heap.size) := Lib.hid fun k hk => Nat.lt_of_lt_of_le (hlo9.out k hk) hb.size
          have HJ := Lib.hid (HJ_.out.below hb)
          have HB := Lib.hid (HB_.out.trans (hb.mono HB_.out.size))
          clear hb HJ_ HB_ HZ9 hlo9
          go_wp2_with fail
          have hS := jhead_any HJ.out
          simp only [hv] at hS
          refine Calls.mono hS ?_
          clear hS
          rintro e w11 ⟨rfl, hb⟩
          have HZ9 := Lib.hid (HZ8.out.keep (SameZ.of_fr (Fr.of_below hb (fun _ => False)) fun k hk => ⟨hlo8.out k hk, fun h => h⟩))
          have hlo9 : Hid (∀ k, Z k → k < w11.heap.size) := Lib.hid fun k hk => Nat.lt_of_lt_of_le (hlo8.out k hk) hb.size
          have HJ_ := Lib.hid (HJ.out.below hb)
          have HB_ := Lib.hid (HB.out.trans (hb.mono HB.out.size))
          clear hb HJ HB HZ8 hlo8
          have hfd := head_live a ep lv
          have t1 := small_num (i := lv) (Nat.lt_trans HX.out.1 (by decide))
          have hRD := read_any HJ_.out.at_ (lv : Nat)
          rw [← HBB.out] at hRD
          have HRD := Lib.hid hRD
          clear hRD
          go_wp2_with fail
          refine Calls.mono HRD.out ?_
          rintro e w12 ⟨v12, rfl, hown, hb⟩
          obtain ⟨A12, c12, rfl, hc12, hm12, hJ12⟩ := own_bytes hown
          have hHZ := (HZ9.out.keep (SameZ.of_fr (Fr.of_below hb (fun _ => False)) fun k hk => ⟨hlo9.out k hk, fun h => h⟩)).row (k := w12.heap.size) fun k hk => Nat.lt_of_lt_of_le (hlo9.out k hk) hb.size
          have HJ := Lib.hid (HJ_.out.below hb)
          have HB := Lib.hid (HB_.out.trans (hb.mono HB_.out.size))
          have hSM := RecW.same_any A7 A12 c7 c12 bb bb L L HF2'.out HF2'.out w12 hHZ hJ12
          rw [beq_self_eq_true] at hSM
          rw [← HF2'.out]
          have HSM := Lib.hid hSM
          clear hown HRD hfd t1 hb HJ_ HB_ HZ9 hlo9 hHZ hSM hJ12 hm12 hc12
          go_wp2_with fail
          refine Calls.mono HSM.out ?_
          rintro e w13 ⟨rfl, rfl⟩
          clear HSM
          have HWI := Lib.hid (next_num (i := i) (Nat.lt_trans HLT.out.2.1 (by decide)))
          go_wp2_with fail
          go_roundw
          case rel => exact ⟨i + 1, L, F', s, ⟨a, ep, lv⟩, HLT.out.1, by rw [HWI.out]; rfl, HJ, HB, Lib.hid HF.out.more⟩
          case measure => rw [HWI.out]; exact meas_lt HLT.out.1
        have hw0 : er = 0 := by omega
        subst hw0
        clear hw
        by_cases hfu : fr < q
        · have he : appendJ s ⟨a, ep, lv⟩ rows = (5, s) := HF.out.a_full rows HER.out.symm (by rw [← HLQ.out, ← HFR.out]; exact hfu)
          rw [he] at hA
          refine Calls.mono hA ?_
          rintro e w8 ⟨rfl, hN⟩
          obtain ⟨F', hJ8, hB8, hs8⟩ := HJ.out.next hN
          have hfx : Fr (fun k => F k ∨ k = jb) w7 w8 := by obtain ⟨_, _, h, _⟩ := hN; exact h.more fun _ h => .inl (.inl h)
          have HQ8 := Lib.hid (show BF w8 F' g10 69 cs from by
            obtain ⟨F'', h1, h2, h3⟩ := hN
            exact ⟨HQ.out.1.fr h2 HQ.out.2, out_of HQ.out.1.lt HQ.out.2 hs8⟩)
          have hlo8 : Hid (∀ k, Z k → k < w8.heap.size) := Lib.hid fun k hk => Nat.lt_of_lt_of_le (hlo7.out k hk).2.2 hfx.size
          have HJ8 := Lib.hid hJ8
          have HB8 := Lib.hid (hgB.out _ _ hB8 HB.out.size HB.out)
          clear hJ8 hB8 hs8 HJ HB HQ hA he
          have HJ := HJ8
          have HB := HB8
          have d1 := Blk.at_ HQ8.out.1 1 k1.out
          clear HJ8 HB8
          dsimp only
          have x1 : (fr : Int) < (q : Int) := by omega
          clear hfu
          have HZ8 := Lib.hid (HZ7.out.keep (SameZ.of_fr hfx (fun k hk => ⟨(hlo7.out k hk).2.2, fun e => e.elim (hlo7.out k hk).1 (hlo7.out k hk).2.1⟩)))
          clear hN hfx HZ7
          go_wp2_with fail
          -- Size, Free, Head, Read, Same
          have hS := jsize_any HJ.out
          rw [HF2.out] at hS
          refine Calls.mono hS ?_
          clear hS
          rintro e w9 ⟨rfl, hb⟩
          have HZ9 := Lib.hid (HZ8.out.keep (SameZ.of_fr (Fr.of_below hb (fun _ => False)) fun k hk => ⟨hlo8.out k hk, fun h => h⟩))
          have hlo9 : Hid (∀ k, Z k → k < w9.heap.size) := Lib.hid fun k hk => Nat.lt_of_lt_of_le (hlo8.out k hk) hb.size
          have HJ_ := Lib.hid (HJ.out.below hb)
          have HB_ := Lib.hid (HB.out.trans (hb.mono HB.out.size))
          clear hb HJ HB HZ8 hlo8
          go_wp2_with fail
          have hS := jfree_any HJ_.out
          rw [HF1.out] at hS
          refine Calls.mono hS ?_
          clear hS
          rintro e w10 ⟨rfl, hb⟩
          have HZ8 := Lib.hid (HZ9.out.keep (SameZ.of_fr (Fr.of_below hb (fun _ => False)) fun k hk => ⟨hlo9.out k hk, fun h => h⟩))
          have hlo8 : Hid (∀ k, Z k → k < w10.heap.size) := Lib.hid fun k hk => Nat.lt_of_lt_of_le (hlo9.out k hk) hb.size
          have HJ := Lib.hid (HJ_.out.below hb)
          have HB := Lib.hid (HB_.out.trans (hb.mono HB_.out.size))
          clear hb HJ_ HB_ HZ9 hlo9
          go_wp2_with fail
          have hS := jhead_any HJ.out
          simp only [hv] at hS
          refine Calls.mono hS ?_
          clear hS
          rintro e w11 ⟨rfl, hb⟩
          have HZ9 := Lib.hid (HZ8.out.keep (SameZ.of_fr (Fr.of_below hb (fun _ => False)) fun k hk => ⟨hlo8.out k hk, fun h => h⟩))
          have hlo9 : Hid (∀ k, Z k → k < w11.heap.size) := Lib.hid fun k hk => Nat.lt_of_lt_of_le (hlo8.out k hk) hb.size
          have HJ_ := Lib.hid (HJ.out.below hb)
          have HB_ := Lib.hid (HB.out.trans (hb.mono HB.out.size))
          clear hb HJ HB HZ8 hlo8
          have hfd := head_live a ep lv
          have t1 := small_num (i := lv) (Nat.lt_trans HX.out.1 (by decide))
          have hRD := read_any HJ_.out.at_ (lv : Nat)
          rw [← HBB.out] at hRD
          have HRD := Lib.hid hRD
          clear hRD
          go_wp2_with fail
          refine Calls.mono HRD.out ?_
          rintro e w12 ⟨v12, rfl, hown, hb⟩
          obtain ⟨A12, c12, rfl, hc12, hm12, hJ12⟩ := own_bytes hown
          have hHZ := (HZ9.out.keep (SameZ.of_fr (Fr.of_below hb (fun _ => False)) fun k hk => ⟨hlo9.out k hk, fun h => h⟩)).row (k := w12.heap.size) fun k hk => Nat.lt_of_lt_of_le (hlo9.out k hk) hb.size
          have HJ := Lib.hid (HJ_.out.below hb)
          have HB := Lib.hid (HB_.out.trans (hb.mono HB_.out.size))
          have hSM := RecW.same_any A7 A12 c7 c12 bb bb L L HF2'.out HF2'.out w12 hHZ hJ12
          rw [beq_self_eq_true] at hSM
          rw [← HF2'.out]
          have HSM := Lib.hid hSM
          clear hown HRD hfd t1 hb HJ_ HB_ HZ9 hlo9 hHZ hSM hJ12 hm12 hc12
          go_wp2_with fail
          refine Calls.mono HSM.out ?_
          rintro e w13 ⟨rfl, rfl⟩
          clear HSM
          have HWI := Lib.hid (next_num (i := i) (Nat.lt_trans HLT.out.2.1 (by decide)))
          go_wp2_with fail
          go_roundw
          case rel => exact ⟨i + 1, L, F', s, ⟨a, ep, lv⟩, HLT.out.1, by rw [HWI.out]; rfl, HJ, HB, Lib.hid HF.out.more⟩
          case measure => rw [HWI.out]; exact meas_lt HLT.out.1
        · obtain ⟨s9, he, hF9⟩ := HF.out.a_ok rows HER.out.symm (by rw [← HLQ.out, ← HFR.out]; omega)
          rw [← HLQ.out] at hF9
          have HF9 := Lib.hid hF9
          clear hF9
          rw [he] at hA
          refine Calls.mono hA ?_
          rintro e w8 ⟨rfl, hN⟩
          obtain ⟨F', hJ8, hB8, hs8⟩ := HJ.out.next hN
          have hfx : Fr (fun k => F k ∨ k = jb) w7 w8 := by obtain ⟨_, _, h, _⟩ := hN; exact h.more fun _ h => .inl (.inl h)
          have HQ8 := Lib.hid (show BF w8 F' g10 69 cs from by
            obtain ⟨F'', h1, h2, h3⟩ := hN
            exact ⟨HQ.out.1.fr h2 HQ.out.2, out_of HQ.out.1.lt HQ.out.2 hs8⟩)
          have hlo8 : Hid (∀ k, Z k → k < w8.heap.size) := Lib.hid fun k hk => Nat.lt_of_lt_of_le (hlo7.out k hk).2.2 hfx.size
          have HJ8 := Lib.hid hJ8
          have HB8 := Lib.hid (hgB.out _ _ hB8 HB.out.size HB.out)
          clear hJ8 hB8 hs8 HJ HB HQ hA he
          have HJ := HJ8
          have HB := HB8
          have d1 := Blk.at_ HQ8.out.1 1 k1.out
          clear HJ8 HB8
          dsimp only
          have x1 : ¬ (fr : Int) < (q : Int) := by omega
          have HQQ : Hid (q ≤ fr) := Lib.hid (by omega)
          clear hfu
          clear hN HZ7 hlo7
          go_wp2_with fail
          obtain ⟨g1, g2, g3, g4, -, -⟩ := HF9.out.facts
          have hS := jsize_any HJ.out
          rw [g2] at hS
          refine Calls.mono hS ?_
          clear hS
          rintro e w9 ⟨rfl, hb⟩
          have HJ_ := Lib.hid (HJ.out.below hb)
          have HB_ := Lib.hid (HB.out.trans (hb.mono HB.out.size))
          clear hb HJ HB
          have v1 := (ok_nums HX.out HQQ.out HLT.out.2.2).1
          have v2 := (ok_nums HX.out HQQ.out HLT.out.2.2).2.1
          obtain ⟨L2, hL2⟩ : ∃ x, x = L + q := ⟨_, rfl⟩
          obtain ⟨fr2, hfr2⟩ : ∃ x, x = al - (L + q) := ⟨_, rfl⟩
          rw [← hL2] at v1 HF9 g1 ⊢
          rw [← hfr2] at v2
          have g1 : Dk.free s9 = fr2 := by rw [g1, hL2, ← hfr2]
          have HG1 := Lib.hid g1
          clear g1 g2 g3 g4 hfr2 hL2
          go_wp2_with fail
          have hS := jfree_any HJ_.out
          rw [HG1.out] at hS
          refine Calls.mono hS ?_
          clear hS
          rintro e w10 ⟨rfl, hb⟩
          have HJ := Lib.hid (HJ_.out.below hb)
          have HB := Lib.hid (HB_.out.trans (hb.mono HB_.out.size))
          clear hb HJ_ HB_
          have HWI := Lib.hid (next_num (i := i) (Nat.lt_trans HLT.out.2.1 (by decide)))
          go_wp2_with fail
          go_roundw
          case rel => exact ⟨i + 1, L2, F', s9, _, HLT.out.1, by rw [HWI.out]; rfl, HJ, HB, Lib.hid HF9.out.more⟩
          case measure => rw [HWI.out]; exact meas_lt HLT.out.1
    · obtain rfl : i = n := by omega
      go_wp2_with fail
      refine Calls.mono (awake_any wr) ?_
      rintro e w2 ⟨rfl, hb⟩
      have HB2 := Lib.hid (HB.out.trans (hb.mono HB.out.size))
      clear hb
      go_wp2_with fail
      go_ret
      exact ⟨rfl, HB2.out⟩
end Go.Proofs.Ytmkijkkddoamgaa.Jo
