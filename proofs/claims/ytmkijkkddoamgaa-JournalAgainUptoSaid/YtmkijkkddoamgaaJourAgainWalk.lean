/-
  The walk of JournalAgain.
-/
import Derived.Test.YtmkijkkddoamgaaJourWant
import Derived.Test.YtmkijkkddoamgaaJourFew
import Derived.Test.YtmkijkkddoamgaaJourAgainPl
namespace Go.Proofs.Ytmkijkkddoamgaa.Jo
set_option linter.unusedVariables false
open Go Go.RowKit Go.Shelf Go.Proofs Go.Proofs.Ytmkijkkddoamgaa Go.Proofs.Ytmkijkkddoamgaa.Wd Go.Proofs.Ytmkijkkddoamgaa.Dk Go.Proofs.Ytmkijkkddoamgaa.Hd Go.Proofs.Ytmkijkkddoamgaa.HdW Go.Proofs.Ytmkijkkddoamgaa.BatW
open Go.Proofs.Ytmkijkkddoamgaa.Bat (B writ allRight)
theorem next_num2 {i : Nat} (h : i < 1000) : wrap64 ((i : Int) + 1) = (i : Int) + 1 := IntWalk.wrap64_in _ (by omega)
theorem cut_nums {tm P c6 : Nat} (hp : 20 ≤ P ∧ P ≤ 320) (ht : tm < 256) (hc : P ≤ c6) : ∃ r q : Nat, (tm : Int).tmod (P : Int) = (r : Int) ∧ wrap64 ((P : Int) - 1) = (P : Int) - 1 ∧ wrap64 ((P : Int) - 1 - (r : Int)) = (q : Int) ∧ wrap64 (tm : Int) = (tm : Int) ∧ wrap64 (r : Int) = (r : Int) ∧ (q : Int) ≤ (c6 : Int) ∧ ¬ (P : Int) = 0 ∧ q < P ∧ q ≤ c6 := by
  obtain ⟨r, hr⟩ : ∃ r, r = tm % P := ⟨_, rfl⟩
  have hrP : r < P := by rw [hr]; exact Nat.mod_lt _ (by omega)
  have t1 : (tm : Int).tmod (P : Int) = (r : Int) := by rw [hr, Int.natCast_emod, Int.tmod_eq_emod_of_nonneg (Int.natCast_nonneg _)]
  clear hr
  refine ⟨r, P - 1 - r, t1, IntWalk.wrap64_in _ (by clear t1; omega), ?_, IntWalk.wrap64_in _ (by clear t1; omega), IntWalk.wrap64_in _ (by clear t1; omega), by clear t1; omega, by clear t1; omega, by clear t1; omega, by clear t1; omega⟩
  rw [show (P : Int) - 1 - (r : Int) = ((P - 1 - r : Nat) : Int) by clear t1; omega]
  exact IntWalk.wrap64_in _ (by clear t1; omega)
theorem room_num {wl P q n1 n2 o : Nat} (h1 : wl ≤ 27110) (h2 : 20 ≤ P ∧ P ≤ 320) (h3 : q < P) (h4 : n1 + n2 ≤ 300) (h5 : n2 = o) : wl + q + o ≤ 60000 := by omega
theorem take_num {q P x : Nat} (h : q < P) (hx : P = x) : q = min q x := by omega
theorem times_num {tm : Nat} (ht : tm < 256) : ∃ r k : Nat, (tm : Int).tmod 5 = (r : Int) ∧ IntKind.u8.wrap (r : Int) = (r : Int) ∧ IntKind.u8.wrap (1 + (r : Int)) = (k : Int) ∧ k ≤ 5 := by
  obtain ⟨r, hr⟩ : ∃ r, r = tm % 5 := ⟨_, rfl⟩
  have t1 : (tm : Int).tmod 5 = (r : Int) := by rw [Int.tmod_eq_emod_of_nonneg (Int.natCast_nonneg _)]; omega
  have hr5 : r < 5 := by omega
  clear hr
  refine ⟨r, 1 + r, t1, IntWalk.u8_in _ (by clear t1; omega), ?_, by clear t1; omega⟩
  rw [show (1 : Int) + (r : Int) = ((1 + r : Nat) : Int) by clear t1; omega]
  exact IntWalk.u8_in _ (by clear t1; omega)
theorem ep_num {i ei e2 : Nat} (h : i < 5) (h1 : ei = 1 + i) (h2 : e2 = ei + 1) : IntKind.u64.wrap (i : Int) = (i : Int) ∧ IntKind.u64.wrap (1 + (i : Int)) = (ei : Int) ∧ IntKind.u64.wrap ((ei : Int) + 1) = (e2 : Int) ∧ IntKind.u8.wrap ((i : Int) + 1) = (i : Int) + 1 := by
  refine ⟨?_, ?_, ?_, ?_⟩
  · rw [IntKind.wrap_u64]; omega
  · rw [IntKind.wrap_u64]; omega
  · rw [IntKind.wrap_u64]; omega
  · exact IntWalk.u8_in _ (by omega)
theorem meas3 {i n : Nat} (h : i < n) : n - (intOf (.int .u8 ((i : Int) + 1))).toNat < n - (intOf (.int .u8 (i : Int))).toNat := by simp [intOf]; omega
theorem same_want {W : World} {F : Nat → Prop} {base k nL c5 c7 : Nat} {A5 A7 : Option Addr} {xs : List Value} {L : List B} (h : Want W F base k (.slice A5 nL c5) xs L) (hk : k ≤ W.heap.size) (hn : nL = L.length) (hlc : nL ≤ c7) (hcm : c7 ≤ maxLen) (hr : BRows3 W W.heap.size A7 L) :
    Calls Try.prog 17 #[.slice A7 nL c7, .slice A5 nL c5] W fun e w' => e = .returned (.bool true) ∧ Below W.heap.size W w' := by
  obtain ⟨A8, c8, hv8, hl8, hm8, hr8⟩ := h.brows hk
  simp only [Value.slice.injEq] at hv8
  obtain ⟨rfl, -, rfl⟩ := hv8
  have hS := samebatches_any A7 A5 c7 c5 L L nL nL hn hn hlc (by rw [hn]; exact hl8) hcm hm8 W hr hr8
  rw [show decide (L = L) = true from decide_eq_true rfl] at hS
  exact hS
theorem se_next {i sr ei sr2 ei2 : Nat} (h : sr = 2 + i ∧ ei = 1 + i) (h2 : sr2 = sr + 1 ∧ ei2 = ei + 1) : sr2 = 2 + (i + 1) ∧ ei2 = 1 + (i + 1) := by omega
theorem meas2 {i n : Nat} (h : i < n) : n - (intOf (.int .i64 ((i : Int) + 1))).toNat < n - (intOf (.int .i64 (i : Int))).toNat := by simp [intOf]; omega
set_option maxRecDepth 100000 in
set_option maxHeartbeats 16000000 in
theorem again_walk (A0 A1 A2 : Option Addr) (n0 c0 n1 c1 n2 c2 : Nat) (tm : Nat) (l : List B) (torn other : List UInt8) (hn0 : n0 = l.length) (hn1 : n1 = torn.length) (hn2 : n2 = other.length) (k0 : n0 ≤ c0) (m0 : c0 ≤ maxLen) (k1 : n1 ≤ c1) (m1 : c1 ≤ maxLen) (k2 : n2 ≤ c2) (m2 : c2 ≤ maxLen) (htm : tm < 256)
    (hmass : mass3 l ≤ 1048576) (hb1 : n1 ≤ 1048576) (hb2 : n2 ≤ 1048576) (w : World) (hI : BRows3 w w.heap.size A0 l) (hT : Bytes w w.heap.size A1 torn) (hO : Bytes w w.heap.size A2 other) :
    Calls Try.prog 3 #[.slice A0 n0 c0, .slice A1 n1 c1, .slice A2 n2 c2, .int .u8 (tm : Nat)] w fun e w' => e = .returned (.bool true) ∧ Below w.heap.size w w' := by
  obtain ⟨j0, hj0, hy0, hy1, hy2⟩ := info_parts infoSS
  have HFE := Lib.hid (few_ex A0 n0 c0 l hn0 k0 m0 hmass w hI)
  have HI := Lib.hid hI
  have HTO := Lib.hid hT
  have HOT := Lib.hid hO
  have H0 := Lib.hid hn0
  have H1 := Lib.hid hn1
  have H2 := Lib.hid hn2
  have HK := Lib.hid (And.intro k1 (And.intro m1 (And.intro k2 m2)))
  have HTM := Lib.hid htm
  clear hI hT hO hn0 hn1 hn2 hmass k0 m0 k1 m1 k2 m2 htm
  go_enter Try.func3, Try.ntmps3
  go_wp2_with fail
  refine Calls.mono HFE.out ?_
  rintro e w1 ⟨rfl, rfl⟩
  clear HFE
  have AW : Hid (∀ W, Below w.heap.size w W → Calls Try.prog 9 #[] W fun e w' => e = .returned (.bool true) ∧ Below w.heap.size w w') := Lib.hid fun W hW => (awake_any W).mono fun e w' h => ⟨h.1, hW.trans (h.2.mono hW.size)⟩
  obtain ⟨q, hq⟩ : ∃ q, (decide (n0 ≤ 20) && decide (fewB l ≤ 3000)) = q := ⟨_, rfl⟩
  rw [hq]
  rcases (by cases q <;> simp : q = false ∨ q = true) with rfl | rfl
  · go_wp2_with fail
    refine Calls.mono (AW.out _ (Below.refl _ _)) ?_
    rintro e w1 ⟨rfl, hb⟩
    have HB := Lib.hid hb
    clear hb hq
    go_wp2_with fail
    go_ret
    exact ⟨rfl, HB.out⟩
  have HFW : Hid (fewB l ≤ 3000) := Lib.hid (by simp at hq; exact hq.2)
  clear hq
  by_cases h10 : 10 < n0
  · have u1 : (10 : Int) < (n0 : Int) := by omega
    go_wp2_with fail
    refine Calls.mono (AW.out _ (Below.refl _ _)) ?_
    rintro e w1 ⟨rfl, hb⟩
    have HB := Lib.hid hb
    clear hb
    go_wp2_with fail
    go_ret
    exact ⟨rfl, HB.out⟩
  have u1 : ¬ (10 : Int) < (n0 : Int) := by omega
  have u2 : wrap64 ((n1 : Int) + (n2 : Int)) = (n1 : Int) + (n2 : Int) := IntWalk.wrap64_in _ (by omega)
  by_cases h300 : 300 < n1 + n2
  · have u3 : (300 : Int) < (n1 : Int) + (n2 : Int) := by omega
    go_wp2_with fail
    refine Calls.mono (AW.out _ (Below.refl _ _)) ?_
    rintro e w1 ⟨rfl, hb⟩
    have HB := Lib.hid hb
    clear hb
    go_wp2_with fail
    go_ret
    exact ⟨rfl, HB.out⟩
  have u3 : ¬ (300 : Int) < (n1 : Int) + (n2 : Int) := by omega
  have HN : Hid (n0 ≤ 10 ∧ n1 + n2 ≤ 300) := Lib.hid (by omega)
  clear h10 h300 hb1 hb2
  go_wp2_with fail
  clear u1 u2 u3
  -- made
  refine Calls.mono (made_any 60000 (by decide) w) ?_
  rintro e w1 ⟨jb, F, s, rfl, hM⟩
  have HJ := Lib.hid hM.j
  have HB := Lib.hid hM.below
  have HLO := Lib.hid (Nat.le_of_lt hM.jlo)
  have HP := Lib.hid (AP.new hM.n)
  obtain ⟨g, hg⟩ : ∃ g, g = w.heap.size := ⟨_, rfl⟩
  have HG := Lib.hid hg
  rw [← hg] at HJ HLO ⊢
  clear hM hg
  go_wp2_with fail
  have HW0 := Lib.hid (Want.nil w1 F g g)
  have HS0 := Lib.hid (Sofar.nil l)
  go_loopw [12, 49] (fun vw ix wr => ∃ (i : Nat) (F : Nat → Prop) (s : DS) (L : List B) (xs : List Value), i ≤ n0 ∧ ix = .int .i64 i ∧ Hid (JAt wr g F g jb s ⟨2, 1, 0⟩) ∧ Hid (AP s L) ∧ Hid (Sofar l i L) ∧ Hid (Want wr F g g vw xs L) ∧ Hid (Below g w wr)) (fun _ ix _ => n0 - (intOf ix).toNat)
  case atStart => exact ⟨0, F, s, [], [], Nat.zero_le _, rfl, HJ, HP, HS0, HW0, Lib.hid (by rw [HG.out]; exact HB.out)⟩
  case round =>
    clear HJ HB HP HW0 HS0
    obtain ⟨i, F, s, L, xs, hi, rfl, HJ, HP, HS, HW, HB⟩ := hrel
    by_cases hlt : i < n0
    · have hil : i < l.length := by have := H0.out; omega
      obtain ⟨b, off, v, rfl, hb, hc, A, c, rfl, q1, q2, q3⟩ := HI.out i hil
      have hcw : wr.cell? ⟨b, off + i, none⟩ = some (.slice A l[i].length c) := (HB.out.cell (p := ⟨b, _, none⟩) (by rw [HG.out]; exact hb)).trans hc
      have HSR : Hid (SR wr g (.slice A l[i].length c) l[i]) := Lib.hid (SR.below ⟨A, c, rfl, q1, q2, by rw [HG.out]; exact q3⟩ HB.out)
      have HSK := Lib.hid (HS.out.skip hil)
      have HSA := Lib.hid (fun h => HS.out.add hil h)
      generalize hx : l[i] = rows at *
      obtain ⟨m, hm⟩ : ∃ m, m = rows.length := ⟨_, rfl⟩
      rw [← hm] at hcw HSR q1
      have hgs : g ≤ wr.heap.size := by rw [HG.out]; exact HB.out.size |> fun h => by exact h
      have hA := jappend_any HJ.out A m c rows hm (Nat.le_trans q1 q2) (by obtain ⟨A', c', e, _, _, h⟩ := HSR.out; cases e; exact h.more hgs)
      have HA := Lib.hid hA
      have HLI : Hid (i < n0 ∧ n0 ≤ 10) := Lib.hid ⟨hlt, HN.out.1⟩
      have i1 : (0 : Int) ≤ (i : Int) := by omega
      have i2 : (i : Int) < (n0 : Int) := by omega
      have HHM := Lib.hid hm
      clear hc q1 q2 q3 hx hA hm hil hlt hi hb
      go_wp2_with fail
      clear hcw i1 i2
      rcases HP.out.append rows with ⟨s', e1, hw, hP'⟩ | ⟨cd, hcd, e1, h5, h6⟩
      · have hA := HA.out
        rw [e1] at hA
        refine Calls.mono hA ?_
        rintro e w2 ⟨rfl, hN⟩
        obtain ⟨F2, hJ2, hB2, hs2⟩ := HJ.out.next hN
        obtain ⟨-, -, hfx, -⟩ := id hN
        have HW2 := Lib.hid (HW.out.fr (F' := F2) hfx (fun g hg => HW.out.apart g hg) hB2 hs2)
        clear hfx
        have HJ2 := Lib.hid hJ2
        have HB2 := Lib.hid (HB.out.trans hB2)
        have HSR2 := Lib.hid (HSR.out.below hB2)
        have HP2 := Lib.hid hP'
        have HS2 := Lib.hid (HSA.out hw)
        clear hN hJ2 hB2 hs2 hA hP' hw e1 HA HJ HB HW HSR HP HS HSK HSA
        obtain ⟨A5, c5, hv5⟩ := own_form HW2.out.own
        subst hv5
        have HBL := (Below.refl w2.heap.size w2).alloc (Nat.le_refl _) (.cells #[.slice A m c] 30)
        have HW3 := Lib.hid (HW2.out.below HBL (by have := HJ2.out.at_.lt HJ2.out.at_.fg; omega))
        have HJ3 := Lib.hid (HJ2.out.below HBL)
        have HSR3 := Lib.hid (HSR2.out.below (HBL.mono (by have := HJ2.out.at_.lt HJ2.out.at_.fg; omega)))
        have HB3 := Lib.hid (HB2.out.trans (HBL.mono (by have := HJ2.out.at_.lt HJ2.out.at_.fg; omega)))
        have HRW : Hid (Row (w2.alloc (.cells #[.slice A m c] 30)) (w2.heap.size + 1) (some ⟨w2.heap.size, 0, none⟩) [.slice A m c]) := Lib.hid (Row.blk (Blk.new_ w2 30 #[.slice A m c] rfl) (B := w2.heap.size + 1) (Nat.lt_succ_self _))
        have hL10 : L.length ≤ 10 := by have h1 := HS2.out.len; have := HLI.out; simp at h1; omega
        have hgz : g ≤ (w2.alloc (.cells #[.slice A m c] 30)).heap.size := by have := HJ3.out.at_.lt HJ3.out.at_.fg; omega
        have HGZ := Lib.hid hgz
        obtain ⟨nL, hnL⟩ : ∃ x, x = L.length := ⟨_, rfl⟩
        have HNL := Lib.hid hnL
        rw [← hnL] at hL10 ⊢
        have HOW : Hid ((w2.alloc (.cells #[.slice A m c] 30)).ownsRow g 30 1 (.slice A5 nL c5) nL xs) := Lib.hid (by have := HW3.out.own; rw [← hnL] at this; exact this)
        have HW3 : Hid (Want (w2.alloc (.cells #[.slice A m c] 30)) F2 g g (.slice A5 nL c5) xs L) := Lib.hid (by have := HW3.out; rw [← hnL] at this; exact this)
        clear HBL hnL hgz
        go_wp2_with (at_builtin; refine wpList_append_row _ rfl (.tmp 57) (.tmp 59) _ rfl g 30 j0 _ 24 Try.underlying22 hj0 hy0 hy1 hy2 rfl _ nL xs rfl (by exact HOW.out) (w2.heap.size + 1) (some ⟨w2.heap.size, 0, none⟩) 1 1 [.slice A m c] rfl rfl (by exact HRW.out) (by intro u hu; simp at hu; subst hu; rfl) (by unfold maxLen; omega) (by omega) (by exact HGZ.out) ?_)
        intro v6 w6 hown hgrow _ hv6
        have hv6' : v6.ownBlock = (Value.slice A5 nL c5).ownBlock ∨ v6.ownBlock = some (w2.alloc (.cells #[.slice A m c] 30)).heap.size := by
          rcases hv6 with h | h
          · exact .inl h
          · exact .inr (by rw [h]; simp)
        have hFl : ∀ k, F2 k → k < (w2.alloc (.cells #[.slice A m c] 30)).heap.size := fun k hk => (HJ3.out.at_.lt hk).2
        have hW6 := HW3.out.grown HSR3.out (by rw [← HNL.out]; exact hown) hgrow hv6' hFl (Nat.le_refl _) HGZ.out
        have hfg := HW3.out.grown_fr hgrow
        have HW6 := Lib.hid hW6
        have HJ6 : Hid (JAt w6 g F2 g jb s' ⟨2, 1, 0⟩) := Lib.hid ⟨HJ3.out.at_.fr hfg fun k hk e => HW3.out.apart k e hk, ⟨HJ3.out.bj.1.fr hfg fun e => (by
          obtain ⟨-, cs, hbk⟩ := own_row HW3.out.own e
          exact absurd rfl (Blk.ne_ HJ3.out.bj.1 hbk (by decide))), HJ3.out.bj.2⟩, HJ3.out.wf, HJ3.out.lv⟩
        have HB6 := Lib.hid (HB3.out.trans (hfg.below HGZ.out fun k hk => (HW3.out.lt hk).1))
        clear hown hgrow hv6' hFl hW6 hfg HW3 HJ3 HSR3 HB3 HOW HRW HJ2 HB2 HW2 HSR2
        have HWI := Lib.hid (next_num2 (i := i) (by have := HLI.out; omega))
        go_wp2_with fail
        go_roundw
        case rel => exact ⟨i + 1, F2, s', _, _, HLI.out.1, by rw [HWI.out]; rfl, HJ6, HP2, HS2, HW6, HB6⟩
        case measure => rw [HWI.out]; exact meas2 HLI.out.1
      · have hA := HA.out
        rw [e1] at hA
        refine Calls.mono hA ?_
        rintro e w2 ⟨rfl, hN⟩
        obtain ⟨F2, hJ2, hB2, hs2⟩ := HJ.out.next hN
        obtain ⟨-, -, hfx, -⟩ := id hN
        have HW2 := Lib.hid (HW.out.fr (F' := F2) hfx (fun g hg => HW.out.apart g hg) hB2 hs2)
        clear hfx
        have HJ2 := Lib.hid hJ2
        have HB2 := Lib.hid (HB.out.trans hB2)
        have u5 : ¬ (cd : Int) = 0 := by omega
        have HWI := Lib.hid (next_num2 (i := i) (by have := HLI.out; omega))
        clear hN hJ2 hB2 hs2 hA e1 h5 h6 hcd HA HJ HB HW HSR HS HSA
        go_wp2_with fail
        go_roundw
        case rel => exact ⟨i + 1, F2, s, L, xs, HLI.out.1, by rw [HWI.out]; rfl, HJ2, HP, HSK, HW2, HB2⟩
        case measure => rw [HWI.out]; exact meas2 HLI.out.1
    · obtain rfl : i = n0 := by omega
      have hll : l.take i = l := List.take_of_length_le (by have := H0.out; omega)
      have HSZ : Hid ((writ L).length ≤ 27110) := Lib.hid (by have h1 := HS.out.size; rw [hll] at h1; have := HFW.out; have := HN.out; omega)
      have HRT := Lib.hid HS.out.right
      clear hll HS hi hlt
      have hgs : Hid (g ≤ wr.heap.size) := Lib.hid (by have := HJ.out.at_.lt HJ.out.at_.fg; omega)
      obtain ⟨A5, c5, hv5⟩ := own_form HW.out.own
      subst hv5
      go_wp2_with fail
      -- Head, Size
      have hH := jhead_any HJ.out
      simp only [hv] at hH
      refine Calls.mono hH ?_
      rintro e w2 ⟨rfl, hb⟩
      have HJ2 := Lib.hid (HJ.out.below hb)
      have HW2 := Lib.hid (HW.out.below hb hgs.out)
      have HB2 := Lib.hid (HB.out.trans (hb.mono hgs.out))
      have hgs2 : Hid (g ≤ w2.heap.size) := Lib.hid (Nat.le_trans hgs.out hb.size)
      clear hH hb HJ HW HB hgs
      have hfd := head_field 2 1 0
      go_wp2_with fail
      clear hfd
      have hS := jsize_any HJ2.out
      obtain ⟨wl, hwl⟩ : ∃ x, x = (writ L).length := ⟨_, rfl⟩
      have HWL := Lib.hid hwl
      have hS' : (rd s ((⟨2, 1, 0⟩ : H).live : Nat)).length = wl := by rw [hwl]; exact congrArg List.length HP.out.size
      rw [hS'] at hS
      refine Calls.mono hS ?_
      rintro e w3 ⟨rfl, hb⟩
      have HJ := Lib.hid (HJ2.out.below hb)
      have HW := Lib.hid (HW2.out.below hb hgs2.out)
      have HB := Lib.hid (HB2.out.trans (hb.mono hgs2.out))
      have hgs : Hid (g ≤ w3.heap.size) := Lib.hid (Nat.le_trans hgs2.out hb.size)
      clear hS hS' hb HJ2 HW2 HB2 hgs2 hwl
      go_wp2_with fail
      -- Put
      have HBL := (Below.refl w3.heap.size w3).alloc (Nat.le_refl _) (.cells #[.slice A1 n1 c1] 23)
      have HJ2 := Lib.hid (HJ.out.below HBL)
      have HW2 := Lib.hid (HW.out.below HBL hgs.out)
      have HB2 := Lib.hid (HB.out.trans (HBL.mono hgs.out))
      have hgs2 : Hid (g ≤ (w3.alloc (.cells #[.slice A1 n1 c1] 23)).heap.size) := Lib.hid (Nat.le_trans hgs.out HBL.size)
      have HRT2 : Hid (BRows (w3.alloc (.cells #[.slice A1 n1 c1] 23)) (w3.alloc (.cells #[.slice A1 n1 c1] 23)).heap.size (some ⟨w3.heap.size, 0, none⟩) [torn]) := Lib.hid (by
        have qz := Blk.new_ w3 23 #[.slice A1 n1 c1] rfl
        refine BRows.of_row (xs := [.slice A1 n1 c1]) (Row.blk qz qz.lt) (Reads.one ⟨A1, c1, by rw [← H1.out], by rw [← H1.out]; exact HK.out.1, HK.out.2.1, ?_⟩)
        have hh : Below w.heap.size w (w3.alloc (.cells #[.slice A1 n1 c1] 23)) := by have := HB2.out; rw [HG.out] at this; exact this
        exact (Row.below HTO.out hh).more hh.size)
      have hw0 : Bat.wrong [torn] = 0 := by
        unfold Bat.wrong
        rw [if_neg (by simp), if_neg]
        simp [Bat.long]
        have := H1.out; have := HN.out; omega
      have hP := bput_any (some ⟨w3.heap.size, 0, none⟩) 1 1 [torn] rfl (by simp [maxLen]) _ HRT2.out
      unfold PutOut at hP
      rw [hw0] at hP
      obtain ⟨P, hPe⟩ : ∃ P, P = (Bat.put [torn]).length := ⟨_, rfl⟩
      rw [← hPe] at hP
      have HPB : Hid (20 ≤ P ∧ P ≤ 320) := Lib.hid (by
        have h1 := Bat.put_length [torn]
        unfold Bat.longB at h1
        rw [if_pos hw0, rows_few] at h1
        simp [bytesOf] at h1
        have := H1.out; have := HN.out; omega)
      have HPE := Lib.hid hPe
      have HPU := Lib.hid hP
      have HW0 := Lib.hid hw0
      clear HBL HJ HW HB hgs hPe hw0 hP
      go_wp2_with fail
      refine Calls.mono HPU.out ?_
      rintro e w4 ⟨A6, c6, rfl, hb, hl6, hm6, hown⟩
      generalize w3.alloc (.cells #[.slice A1 n1 c1] 23) = w3' at *
      have hF4 : ∀ k, F k → k < w3'.heap.size := fun k hk => (HJ2.out.at_.lt hk).2
      obtain ⟨hPl, hI6, hAF⟩ := own_far_of hown hF4
      have HJ := Lib.hid (HJ2.out.below hb)
      have HW := Lib.hid (HW2.out.below hb hgs2.out)
      have HB := Lib.hid (HB2.out.trans (hb.mono hgs2.out))
      have hgs : Hid (g ≤ w4.heap.size) := Lib.hid (Nat.le_trans hgs2.out hb.size)
      -- the place of the cut
      obtain ⟨r, q, t1, t2, t3, t4, t5, g1, g2, hq1, hq2⟩ := cut_nums HPB.out HTM.out hl6
      have HQ := Lib.hid (And.intro hq1 hq2)
      clear hq1 hq2
      obtain ⟨s1, s2, a1, a2, a3⟩ := HP.out.torn HRT.out HW0.out (q := q) (by rw [← HPE.out]; exact HQ.out.1) other (room_num HSZ.out HPB.out HQ.out.1 HN.out.2 H2.out)
      have hA := append_any HJ.out.at_ 0 (A := A6) (n := q) (c := c6) (b := (Bat.put [torn]).take q) (by rw [List.length_take]; exact take_num HQ.out.1 hPl) HQ.out.2 hm6 (hI6.head q) (fun hne => hAF (by intro e; rw [e] at hne; simp at hne))
      rw [a1] at hA
      have HA := Lib.hid hA
      have HA2 := Lib.hid a2
      have HAG := Lib.hid a3
      clear a1 a2 a3 hA hPl hI6 hAF hown hb HJ2 HW2 HB2 hgs2 hF4 HPU hl6 hm6
      go_wp2_with fail
      clear t1 t2 t3 t4 t5 g1 g2
      refine Calls.mono HA.out ?_
      rintro e w5 ⟨rfl, hN⟩
      obtain ⟨F5, hJ5, hB5, hs5⟩ := HJ.out.next hN
      obtain ⟨-, -, hfx, -⟩ := id hN
      have HW5 := Lib.hid (HW.out.fr (F' := F5) hfx (fun g hg => HW.out.apart g hg) hB5 hs5)
      have HJ5 := Lib.hid hJ5
      have HB5 := Lib.hid (HB.out.trans hB5)
      clear hN hfx hJ5 hB5 hs5 HA HJ HW HB hgs
      have hOb := Row.below HOT.out (by have := HB5.out; rw [HG.out] at this; exact this)
      have hA := append_any HJ5.out.at_ 1 (A := A2) (n := n2) (c := c2) (b := other) H2.out HK.out.2.2.1 HK.out.2.2.2 (hOb.more (by have := HJ5.out.at_.lt HJ5.out.at_.fg; rw [HG.out] at this; omega)) (of_args hOb HJ5.out.at_ (by rw [HG.out]; exact Nat.le_refl _))
      rw [HA2.out] at hA
      have HA := Lib.hid hA
      clear hA hOb
      go_wp2_with fail
      refine Calls.mono HA.out ?_
      rintro e w6 ⟨rfl, hN⟩
      obtain ⟨F6, hJ6, hB6, hs6⟩ := HJ5.out.next hN
      obtain ⟨-, -, hfx, -⟩ := id hN
      have HW6 := Lib.hid (HW5.out.fr (F' := F6) hfx (fun g hg => HW5.out.apart g hg) hB6 hs6)
      have HJ6 := Lib.hid hJ6.at_
      have HB6 := Lib.hid (HB5.out.trans hB6)
      clear hN hfx hJ6 hB6 hs6 HA HA2 HJ5 HW5 HB5 HP
      obtain ⟨r5, k5, t1, t2, t3, hk5⟩ := times_num HTM.out
      obtain ⟨nL, hnL⟩ : ∃ x, x = L.length := ⟨_, rfl⟩
      have HNL := Lib.hid hnL
      rw [← hnL] at HW6 ⊢
      clear hnL
      have HK5 := Lib.hid hk5
      clear hk5
      go_wp2_with fail
      clear t1 t2 t3
      -- opened again and again
      go_loopw [103] (fun ix wr => ∃ (i sr ei : Nat) (F : Nat → Prop) (s : DS), i ≤ k5 ∧ ix = .int .u8 i ∧ Hid (sr = 2 + i ∧ ei = 1 + i) ∧ Hid (At wr g F g s) ∧ Hid (AG s ⟨sr, ei, 0⟩ L) ∧ Hid (Want wr F g g (.slice A5 nL c5) xs L) ∧ Hid (Below g w wr)) (fun ix _ => k5 - (intOf ix).toNat)
      case atStart => exact ⟨0, 2, 1, F6, s2, Nat.zero_le _, rfl, Lib.hid ⟨rfl, rfl⟩, HJ6, HAG, HW6, HB6⟩
      case round =>
        clear HJ6 HAG HW6 HB6
        obtain ⟨i, sr, ei, F, s, hi, rfl, HSE, HA, HAG, HW, HB⟩ := hrel
        by_cases hlt : i < k5
        · have i1 : (i : Int) < (k5 : Int) := by omega
          have HLI : Hid (i < k5 ∧ i < 5) := Lib.hid (by have := HK5.out; omega)
          clear hi hlt
          go_wp2_with fail
          clear i1
          obtain ⟨s', sr2, ei2, hsr, hei, e1, e2, hAG', e4, e5⟩ := HAG.out.open2 HRT.out (by have := HLI.out; have := HSE.out; omega) (by have := HLI.out; have := HSE.out; omega)
          have HSE2 := Lib.hid (And.intro hsr hei)
          have HWF : Hid (Wf ⟨sr2, ei2, 0⟩) := Lib.hid (wf_of (by have := HLI.out; have := HSE.out; omega) (by have := HLI.out; have := HSE.out; omega))
          clear hsr hei
          have hO := open_any HA.out
          unfold OpenOut at hO
          rw [e1, e2] at hO
          have HO := Lib.hid hO
          have HE := Lib.hid (And.intro e4 e5)
          have HAG2 := Lib.hid hAG'
          clear hO e1 e2 hAG' e4 e5
          refine Calls.mono HO.out ?_
          clear HO
          rintro e w7 ⟨F7, hA7, hf7, hs7, h⟩
          rcases h with ⟨h0, _⟩ | ⟨-, kb, A7, c7, lo, hi', rfl, qk, hkb, nkb, hlc, hcm, hrz, hlo, hhi, -⟩
          · exact absurd rfl h0
          have hB7 : Below g wr w7 := hf7.below (by have := HA.out.lt HA.out.fg; omega) fun k hk => (HA.out.lt hk).1
          have HW7 := Lib.hid (HW.out.fr (F' := F7) hf7 (fun g hg => HW.out.apart g hg) hB7 hs7)
          have HB7 := Lib.hid (HB.out.trans hB7)
          have HJ7 : Hid (JAt w7 g F7 g kb s' ⟨sr2, ei2, 0⟩) := Lib.hid ⟨hA7, ⟨qk, nkb⟩, HWF.out, show (0 : Nat) < 2 by decide⟩
          have HR7 := Lib.hid (hrz.rows (k := w7.heap.size) fun b hb => Nat.lt_of_lt_of_le hb.2 hhi)
          have HG7 : Hid (g ≤ w7.heap.size) := Lib.hid (by have := HJ7.out.at_.lt HJ7.out.at_.fg; omega)
          rw [← HNL.out] at hlc ⊢
          clear hA7 hf7 hs7 qk hkb nkb hrz hlo hhi hB7 HA HW HB
          go_wp2_with fail
          -- the same batches
          have HSB : Hid (Calls Try.prog 17 #[.slice A7 nL c7, .slice A5 nL c5] w7 fun e w' => e = .returned (.bool true) ∧ Below w7.heap.size w7 w') := Lib.hid (same_want HW7.out HG7.out HNL.out hlc hcm HR7.out)
          clear HR7
          refine Calls.mono HSB.out ?_
          clear HSB hlc hcm
          rintro e w8 ⟨rfl, hb⟩
          have HW8 := Lib.hid (HW7.out.below hb HG7.out)
          have HB8 := Lib.hid (HB7.out.trans (hb.mono HG7.out))
          have HJ8 := Lib.hid (HJ7.out.below hb)
          have HG8 : Hid (g ≤ w8.heap.size) := Lib.hid (Nat.le_trans HG7.out hb.size)
          clear hb HW7 HB7 HJ7 HG7
          go_wp2_with fail
          have hH := jhead_any HJ8.out
          simp only [hv] at hH
          refine Calls.mono hH ?_
          clear hH
          rintro e w9 ⟨rfl, hb⟩
          have HW9 := Lib.hid (HW8.out.below hb HG8.out)
          have HB9 := Lib.hid (HB8.out.trans (hb.mono HG8.out))
          have HJ9 := Lib.hid (HJ8.out.below hb)
          have HG9 : Hid (g ≤ w9.heap.size) := Lib.hid (Nat.le_trans HG8.out hb.size)
          clear hb HW8 HB8 HJ8 HG8
          have hfd := head_field (sr2 : Int) (ei2 : Int) 0
          obtain ⟨n1_, n2_, n3_, n4_⟩ := ep_num HLI.out.2 HSE.out.2 HSE2.out.2
          go_wp2_with fail
          clear hfd n1_ n2_ n3_ n4_
          have hS := jsize_any HJ9.out
          have hS' : (rd s' ((⟨sr2, ei2, 0⟩ : H).live : Nat)).length = wl := by rw [HWL.out]; exact congrArg List.length HE.out.1
          rw [hS'] at hS
          refine Calls.mono hS ?_
          clear hS hS'
          rintro e w10 ⟨rfl, hb⟩
          have HW8 := Lib.hid (HW9.out.below hb HG9.out)
          have HB8 := Lib.hid (HB9.out.trans (hb.mono HG9.out))
          have HJ8 := Lib.hid (HJ9.out.below hb)
          have HG8 : Hid (g ≤ w10.heap.size) := Lib.hid (Nat.le_trans HG9.out hb.size)
          clear hb HW9 HB9 HJ9 HG9
          go_wp2_with fail
          have hRD := read_any HJ8.out.at_ 1
          have hE1 : rd s' 1 = [] := HE.out.2
          rw [hE1] at hRD
          refine Calls.mono hRD ?_
          clear hRD hE1
          rintro e w11 ⟨v11, rfl, hown, hb⟩
          obtain ⟨A11, c11, rfl⟩ := own_form hown
          have HW9 := Lib.hid (HW8.out.below hb HG8.out)
          have HB9 := Lib.hid (HB8.out.trans (hb.mono HG8.out))
          have HJ9 := Lib.hid (HJ8.out.below hb).at_
          clear hown hb HW8 HB8 HJ8 HG8
          have hnx := HSE.out
          have n4_ := (ep_num HLI.out.2 HSE.out.2 HSE2.out.2).2.2.2
          have HN4 := Lib.hid n4_
          clear hnx
          go_wp2_with fail
          go_roundw
          case rel => exact ⟨i + 1, sr2, ei2, F7, s', HLI.out.1, by first | rfl | (rw [HN4.out]; rfl), Lib.hid (se_next HSE.out HSE2.out), HJ9, HAG2, HW9, HB9⟩
          case measure => first | exact meas3 HLI.out.1 | (rw [HN4.out]; exact meas3 HLI.out.1)
        · obtain rfl : i = k5 := by omega
          clear hi hlt
          go_wp2_with fail
          refine Calls.mono (AW.out _ (by have := HB.out; rw [HG.out] at this; exact this)) ?_
          rintro e w7 ⟨rfl, hb⟩
          have HBz := Lib.hid hb
          clear hb
          go_wp2_with fail
          go_ret
          exact ⟨rfl, HBz.out⟩
end Go.Proofs.Ytmkijkkddoamgaa.Jo
