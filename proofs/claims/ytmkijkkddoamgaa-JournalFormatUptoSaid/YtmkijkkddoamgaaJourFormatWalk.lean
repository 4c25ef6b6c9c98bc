/-
  The walk of JournalFormat.
-/
import Derived.Test.YtmkijkkddoamgaaJourAwake
import Derived.Test.YtmkijkkddoamgaaJourFew
import Derived.Test.YtmkijkkddoamgaaJourFormatPl2
namespace Go.Proofs.Ytmkijkkddoamgaa.Jo
set_option linter.unusedVariables false
open Go Go.RowKit Go.Shelf Go.Proofs Go.Proofs.Ytmkijkkddoamgaa Go.Proofs.Ytmkijkkddoamgaa.Wd Go.Proofs.Ytmkijkkddoamgaa.Dk Go.Proofs.Ytmkijkkddoamgaa.Hd Go.Proofs.Ytmkijkkddoamgaa.HdW Go.Proofs.Ytmkijkkddoamgaa.BatW
open Go.Proofs.Ytmkijkkddoamgaa.Bat (B writ allRight)
/-- A disk that is made, all of it safe. -/
structure Made2 (w : World) (c : Nat) (jb : Nat) (F : Nat → Prop) (s : DS) (w' : World) : Prop where
  j : JAt w' w.heap.size F w.heap.size jb s ⟨2, 1, 0⟩
  n : JS s ⟨2, 1, 0⟩ c (fun _ => [])
  below : Below w.heap.size w w'
  jlo : w.heap.size < jb
set_option maxRecDepth 100000 in
set_option maxHeartbeats 1000000 in
theorem made_any2 (c : Nat) (hc : c ≤ 1048576) (w : World) : Calls Try.prog 10 #[.int .i64 c] w fun e w' => ∃ jb F s, e = .returned (.tuple #[.pointer (some ⟨w.heap.size, 0, none⟩), .pointer (some ⟨jb, 0, none⟩), .bool true]) ∧ Made2 w c jb F s w' := by
  obtain ⟨s1, s2, e1, e2, e3, hN⟩ := made_new2 c
  have HNW := Lib.hid (new_any c hc w)
  have HN := Lib.hid hN
  have HOB := Lib.hid e3
  have HE1 := Lib.hid e1
  have HE2 := Lib.hid e2
  clear hN e1 e2 e3
  go_enter Try.func10, Try.ntmps10
  go_wp2_with fail
  refine Calls.mono HNW.out ?_
  rintro e w1 ⟨rfl, hA1, hB1⟩
  have HA1 := Lib.hid hA1
  have HB1 := Lib.hid hB1
  clear HNW hA1 hB1
  go_wp2_with fail
  have hFm := format_any HA1.out
  rw [HE1.out] at hFm
  refine Calls.mono hFm ?_
  rintro e w2 ⟨rfl, F2, hA2, hf2, hs2⟩
  have HF2 := Lib.hid (HB1.out.trans (hf2.below (B := w.heap.size) HB1.out.size fun k hk => by rw [hk]; exact Nat.le_refl _))
  have HA2 := Lib.hid hA2
  have HS2 : Hid (∀ k, F2 k → w.heap.size ≤ k) := Lib.hid fun k hk => (hA2.lt hk).1
  clear hFm hA2 hf2 hs2 HA1
  go_wp2_with fail
  have hO := open_any HA2.out
  unfold OpenOut at hO
  rw [HE2.out] at hO
  refine Calls.mono hO ?_
  rintro e w3 ⟨F3, hA3, hf3, hs3, h⟩
  rcases h with ⟨h0, _⟩ | ⟨-, jb, A, cp, lo, hi, rfl, qj, hjb, njb, hlc, hcm, -, -, -, -⟩
  · exact absurd rfl h0
  have HB3 := Lib.hid (HF2.out.trans (hf3.below (B := w.heap.size) HF2.out.size HS2.out))
  have HJ : Hid (JAt w3 w.heap.size F3 w.heap.size jb s2 ⟨2, 1, 0⟩) := Lib.hid ⟨hA3, ⟨qj, njb⟩, ⟨by decide, by decide, by decide⟩, by decide⟩
  have HJB : Hid (w.heap.size < jb) := Lib.hid (by have := (HA2.out.lt HA2.out.fg).2; omega)
  rw [HOB.out]
  clear hO hA3 hf3 hs3 qj hjb njb hlc HA2 HS2 HF2
  show _
  go_wp2_with fail
  refine bodyPost_ret (v := .tuple #[.pointer (some ⟨w.heap.size, 0, none⟩), .pointer (some ⟨jb, 0, none⟩), .bool true]) (by simp [results, Try.results10, go_sem]) rfl ?_
  exact ⟨jb, F3, s2, rfl, HJ.out, HN.out, HB3.out, HJB.out⟩
theorem at_num {tm : Nat} (ht : tm < 256) : ∃ k : Nat, (tm : Int).tmod 5 = (k : Int) ∧ IntKind.u8.wrap (k : Int) = (k : Int) ∧ wrap64 (k : Int) = (k : Int) ∧ k < 5 := by
  obtain ⟨r, hr⟩ : ∃ r, r = tm % 5 := ⟨_, rfl⟩
  have t1 : (tm : Int).tmod 5 = (r : Int) := by rw [Int.tmod_eq_emod_of_nonneg (Int.natCast_nonneg _)]; omega
  have hr5 : r < 5 := by omega
  clear hr
  exact ⟨r, t1, IntWalk.u8_in _ (by clear t1; omega), IntWalk.wrap64_in _ (by clear t1; omega), hr5⟩
theorem next_num3 {i : Nat} (h : i < 1000) : wrap64 ((i : Int) + 1) = (i : Int) + 1 := IntWalk.wrap64_in _ (by omega)
theorem meas4 {i n : Nat} (h : i < n) : n - (intOf (.int .i64 ((i : Int) + 1))).toNat < n - (intOf (.int .i64 (i : Int))).toNat := by simp [intOf]; omega
theorem no_room {l L : List B} {i : Nat} (h : Sofar l i L) (hi : i < l.length) (h8 : i < 8) (hf : fewB l ≤ 3000) : (writ L).length + (Bat.put l[i]).length ≤ 60000 := by
  have h1 := h.size
  have h2 := put_few l[i]
  have h3 := fewB_take hi
  have h4 := fewB_le l (i + 1)
  omega
theorem zero4 : ∀ w, (zeroValue 67).run Try.prog w = .ok (.agg #[.int .i64 0, .int .i64 0, .int .i64 0, .int .i64 0]) w := fun w => by kernel_rfl
theorem open_done {s : DS} (h : JN s x3 60000 (fun _ => [])) : ∃ s', openD s = (0, s', ⟨4, 1, 0⟩) ∧ (openB s).1 = [] ∧ rd s' (0 : Nat) = [] := by
  obtain ⟨s', e, h', e2⟩ := h.opened (by decide)
  refine ⟨s', e, by rw [e2]; rfl, ?_⟩
  rw [h'.rd (i := 0) (by decide)]
  show (if (0 : Nat) = 0 then List.take (Bat.scan []).2.1 [] else ([] : List UInt8)) = []
  rw [if_pos rfl]
  simp
theorem open_back {s : DS} {L : List B} {al : Nat → List UInt8} (h : JN s ⟨2, 1, 0⟩ 60000 al) (hr : allRight L = true) (h0 : al 0 = writ L) : ∃ s', openD s = (0, s', ⟨3, 2, 0⟩) ∧ (openB s).1 = L := by
  obtain ⟨s', e, h', e2⟩ := h.opened (by decide)
  refine ⟨s', e, ?_⟩
  rw [e2]
  show (Bat.scan (al 0)).1 = L
  have := Bat.scan_writ hr []
  rw [List.append_nil, Bat.scan_nil] at this
  rw [h0, this]
  simp
set_option maxRecDepth 100000 in
set_option maxHeartbeats 16000000 in
theorem format_walk (A0 : Option Addr) (n0 c0 : Nat) (tm : Nat) (l : List B) (hn0 : n0 = l.length) (k0 : n0 ≤ c0) (m0 : c0 ≤ maxLen) (htm : tm < 256) (hmass : mass3 l ≤ 1048576) (w : World) (hI : BRows3 w w.heap.size A0 l) :
    Calls Try.prog 7 #[.slice A0 n0 c0, .int .u8 (tm : Nat)] w fun e w' => e = .returned (.bool true) ∧ Below w.heap.size w w' := by
  have HFE := Lib.hid (few_ex A0 n0 c0 l hn0 k0 m0 hmass w hI)
  have HI := Lib.hid hI
  have H0 := Lib.hid hn0
  have HTM := Lib.hid htm
  clear hI hn0 hmass k0 m0 htm
  go_enter Try.func7, Try.ntmps7
  go_wp2_with fail
  refine Calls.mono HFE.out ?_
  rintro e w1 ⟨rfl, rfl⟩
  clear HFE
  have AW : Hid (∀ W, Below w.heap.size w W → Calls Try.prog 9 #[] W fun e w' => e = .returned (.bool true) ∧ Below w.heap.size w w') := Lib.hid fun W hW => (awake_any W).mono fun e w' h => ⟨h.1, hW.trans (h.2.mono hW.size)⟩
  obtain ⟨q, hq⟩ : ∃ q, (decide (n0 ≤ 20) && decide (fewB l ≤ 3000)) = q := ⟨_, rfl⟩
  rw [hq]
  rcases (by cases q <;> simp : q = false ∨ q = true) with rfl | rfl
  · go_wp2_with fail
    refine Calls.mono (AW.out _ (Below.refl _ _)) ?_
    rintro e w1 ⟨rfl, hb⟩
    have HB := Lib.hid hb
    clear hb hq
    go_wp2_with fail
    go_ret
    exact ⟨rfl, HB.out⟩
  have HFW : Hid (fewB l ≤ 3000) := Lib.hid (by simp at hq; exact hq.2)
  clear hq
  by_cases h8 : 8 < n0
  · have u1 : (8 : Int) < (n0 : Int) := by omega
    go_wp2_with fail
    refine Calls.mono (AW.out _ (Below.refl _ _)) ?_
    rintro e w1 ⟨rfl, hb⟩
    have HB := Lib.hid hb
    clear hb
    go_wp2_with fail
    go_ret
    exact ⟨rfl, HB.out⟩
  have u1 : ¬ (8 : Int) < (n0 : Int) := by omega
  have HN : Hid (n0 ≤ 8) := Lib.hid (by omega)
  clear h8
  go_wp2_with fail
  clear u1
  refine Calls.mono (made_any2 60000 (by decide) w) ?_
  rintro e w1 ⟨jb, F, s, rfl, hM⟩
  have HJ := Lib.hid hM.j
  have HB := Lib.hid hM.below
  have HP : Hid (AS s []) := Lib.hid ⟨_, hM.n, rfl, rfl⟩
  obtain ⟨g, hg⟩ : ∃ g, g = w.heap.size := ⟨_, rfl⟩
  have HG := Lib.hid hg
  rw [← hg] at HJ ⊢
  clear hM hg
  go_wp2_with fail
  go_loopw [36] (fun ix wr => ∃ (i : Nat) (F : Nat → Prop) (s : DS) (L : List B), i ≤ n0 ∧ ix = .int .i64 i ∧ Hid (JAt wr g F g jb s ⟨2, 1, 0⟩) ∧ Hid (AS s L) ∧ Hid (Sofar l i L) ∧ Hid (Below g w wr)) (fun ix _ => n0 - (intOf ix).toNat)
  case atStart => exact ⟨0, F, s, [], Nat.zero_le _, rfl, HJ, HP, Lib.hid (Sofar.nil l), Lib.hid (by rw [HG.out]; exact HB.out)⟩
  case round =>
    clear HJ HB HP
    obtain ⟨i, F, s, L, hi, rfl, HJ, HP, HS, HB⟩ := hrel
    by_cases hlt : i < n0
    · have hil : i < l.length := by have := H0.out; omega
      obtain ⟨b, off, v, rfl, hb, hc, A, c, rfl, q1, q2, q3⟩ := HI.out i hil
      have hcw : wr.cell? ⟨b, off + i, none⟩ = some (.slice A l[i].length c) := (HB.out.cell (p := ⟨b, _, none⟩) (by rw [HG.out]; exact hb)).trans hc
      have hsz := HB.out.size
      have hgs : g ≤ wr.heap.size := by have := HJ.out.at_.lt HJ.out.at_.fg; omega
      have hrw : BRows wr wr.heap.size A l[i] := (BRows.below q3 (by have := HB.out; rw [HG.out] at this; exact this)).more (by rw [← HG.out]; exact hgs)
      have HSK := Lib.hid (HS.out.skip hil)
      have HSA := Lib.hid (fun h => HS.out.add hil h)
      have HNR := Lib.hid (no_room HS.out hil (by have := HN.out; omega) HFW.out)
      generalize hx : l[i] = rows at *
      obtain ⟨m, hm⟩ : ∃ m, m = rows.length := ⟨_, rfl⟩
      rw [← hm] at hcw q1
      have HA := Lib.hid (jappend_any HJ.out A m c rows hm (Nat.le_trans q1 q2) hrw)
      have HLI : Hid (i < n0 ∧ n0 ≤ 8) := Lib.hid ⟨hlt, HN.out⟩
      have i1 : (0 : Int) ≤ (i : Int) := by omega
      have i2 : (i : Int) < (n0 : Int) := by omega
      clear hc q1 q2 q3 hx hm hil hlt hi hb hrw hgs hsz
      go_wp2_with fail
      clear hcw i1 i2
      have HWI := Lib.hid (next_num3 (i := i) (by have := HLI.out; omega))
      rcases HP.out.append rows with ⟨s', e1, hw, hP'⟩ | ⟨cd, hcd, e1, h5, h6⟩
      · have hA := HA.out
        rw [e1] at hA
        refine Calls.mono hA ?_
        rintro e w2 ⟨rfl, hN⟩
        obtain ⟨F2, hJ2, hB2, hs2⟩ := HJ.out.next hN
        have HJ2 := Lib.hid hJ2
        have HB2 := Lib.hid (HB.out.trans hB2)
        have HP2 := Lib.hid hP'
        have HS2 := Lib.hid (HSA.out hw)
        clear hN hJ2 hB2 hs2 hA hP' hw e1 HA HJ HB HP HS HSK HSA
        go_wp2_with fail
        go_roundw
        case rel => exact ⟨i + 1, F2, s', _, HLI.out.1, by rw [HWI.out]; rfl, HJ2, HP2, HS2, HB2⟩
        case measure => rw [HWI.out]; exact meas4 HLI.out.1
      · have hc5 : cd ≠ 5 := fun e => by have h1 := h5 e; have h2 := HNR.out; exact absurd (Nat.lt_of_lt_of_le h1 h2) (Nat.lt_irrefl _)
        have hA := HA.out
        rw [e1] at hA
        have h34 := h6 hc5
        refine Calls.mono hA ?_
        rintro e w2 ⟨rfl, hN⟩
        obtain ⟨F2, hJ2, hB2, hs2⟩ := HJ.out.next hN
        have HJ2 := Lib.hid hJ2
        have HB2 := Lib.hid (HB.out.trans hB2)
        clear hN hJ2 hB2 hs2 hA e1 h5 h6 hcd HA HJ HB HS HSA hc5
        rcases h34 with rfl | rfl
        · go_wp2_with fail
          go_roundw
          case rel => exact ⟨i + 1, F2, s, L, HLI.out.1, by rw [HWI.out]; rfl, HJ2, HP, HSK, HB2⟩
          case measure => rw [HWI.out]; exact meas4 HLI.out.1
        · go_wp2_with fail
          go_roundw
          case rel => exact ⟨i + 1, F2, s, L, HLI.out.1, by rw [HWI.out]; rfl, HJ2, HP, HSK, HB2⟩
          case measure => rw [HWI.out]; exact meas4 HLI.out.1
    · obtain rfl : i = n0 := by omega
      have HLN : Hid (L.length ≤ i) := Lib.hid HS.out.len
      have HRT := Lib.hid HS.out.right
      clear hi hlt
      obtain ⟨k, t1, t2, t3, hk5⟩ := at_num HTM.out
      have HK5 := Lib.hid hk5
      clear hk5
      go_wp2_with fail
      clear t1 t2 t3
      -- the fuse
      have HFL := Lib.hid (format_law HP.out HRT.out k)
      refine Calls.mono (fuse_any HJ.out.at_ (k : Nat) 0 (by have := HK5.out; omega) (by decide)) ?_
      rintro e w2 ⟨⟨v2, rfl⟩, hN⟩
      obtain ⟨F2, hJ2, hB2, hs2⟩ := HJ.out.next hN
      have HA2 := Lib.hid hJ2.at_
      have HB2 := Lib.hid (HB.out.trans hB2)
      clear hN hJ2 hB2 hs2 HJ HB HP HS
      go_wp2_with fail
      -- Format
      obtain ⟨⟨cd, s3⟩, hr⟩ : ∃ r, formatD (fuseD (k : Int) 0 s) = r := ⟨_, rfl⟩
      have hFm := format_any HA2.out
      rw [hr] at hFm HFL
      clear hr
      refine Calls.mono hFm ?_
      clear hFm
      rintro e w3 ⟨rfl, F3, hA3, hf3, hs3⟩
      have HB3 := Lib.hid (HB2.out.trans (hf3.below (by have := HA2.out.lt HA2.out.fg; omega) fun k hk => (HA2.out.lt hk).1))
      have HA3 := Lib.hid hA3
      clear hA3 hf3 hs3 HA2 HB2
      go_wp2_with fail
      -- the fuse, off
      refine Calls.mono (fuse_any HA3.out (-1) 0 (by decide) (by decide)) ?_
      rintro e w4 ⟨⟨v4, rfl⟩, F4, hA4, hf4, hs4⟩
      have HB4 := Lib.hid (HB3.out.trans (hf4.below (by have := HA3.out.lt HA3.out.fg; omega) fun k hk => (HA3.out.lt hk).1))
      have HA4 := Lib.hid hA4
      clear hA4 hf4 hs4 HA3 HB3
      dsimp only
      rcases HFL.out with ⟨hc, hJN⟩ | ⟨hc, hdd, L', al, hL', hr', hJN, a0, a1⟩
      · have hc' : cd = 0 := hc
        subst hc'
        obtain ⟨s5, e1, e2, e3⟩ := open_done hJN
        have hO := open_any HA4.out
        unfold OpenOut at hO
        rw [e1, e2] at hO
        have HO := Lib.hid hO
        have HE3 := Lib.hid e3
        clear hO e1 e2 e3 hJN hc HFL
        go_wp2_with fail
        refine Calls.mono HO.out ?_
        clear HO
        rintro e w5 ⟨F5, hA5, hf5, hs5, h⟩
        rcases h with ⟨h0, _⟩ | ⟨-, kb, A7, c7, lo, hi', rfl, qk, hkb, nkb, hlc, hcm, -, -, -, -⟩
        · exact absurd rfl h0
        have HB5 := Lib.hid (HB4.out.trans (hf5.below (by have := HA4.out.lt HA4.out.fg; omega) fun k hk => (HA4.out.lt hk).1))
        have HJ5 : Hid (JAt w5 g F5 g kb s5 ⟨4, 1, 0⟩) := Lib.hid ⟨hA5, ⟨qk, nkb⟩, ⟨show (4 : Nat) < 18446744073709551616 by decide, show (1 : Nat) < 18446744073709551616 by decide, show (0 : Nat) < 256 by decide⟩, show (0 : Nat) < 2 by decide⟩
        have HG5 : Hid (g ≤ w5.heap.size) := Lib.hid (by have := HJ5.out.at_.lt HJ5.out.at_.fg; omega)
        clear hA5 hf5 hs5 qk hkb nkb hlc hcm HA4 HB4
        go_wp2_with fail
        have hH := jhead_any HJ5.out
        simp only [hv] at hH
        refine Calls.mono hH ?_
        clear hH
        rintro e w6 ⟨rfl, hb⟩
        have HB6 := Lib.hid (HB5.out.trans (hb.mono HG5.out))
        have HJ6 := Lib.hid (HJ5.out.below hb)
        have HG6 : Hid (g ≤ w6.heap.size) := Lib.hid (Nat.le_trans HG5.out hb.size)
        clear hb HB5 HJ5 HG5
        have hfd := head_field 4 1 0
        go_wp2_with fail
        clear hfd
        have hS := jsize_any HJ6.out
        have hS' : (rd s5 ((⟨4, 1, 0⟩ : H).live : Nat)).length = 0 := congrArg List.length HE3.out
        rw [hS'] at hS
        refine Calls.mono hS ?_
        clear hS hS'
        rintro e w7 ⟨rfl, hb⟩
        have HB7 := Lib.hid (HB6.out.trans (hb.mono HG6.out))
        clear hb HB6 HJ6 HG6
        go_wp2_with fail
        refine Calls.mono (AW.out _ (by have := HB7.out; rw [HG.out] at this; exact this)) ?_
        rintro e w8 ⟨rfl, hb⟩
        have HBz := Lib.hid hb
        clear hb
        go_wp2_with fail
        go_ret
        exact ⟨rfl, HBz.out⟩
      · have hc' : cd = 3 := hc
        subst hc'
        have ed : fuseD (-1) 0 s3 = s3 := by unfold fuseD; exact if_pos hdd
        rw [ed] at HA4
        obtain ⟨s5, e1, e2⟩ := open_back hJN hr' a0
        have HE := Lib.hid (And.intro e1 e2)
        have HLL : Hid (L'.length ≤ i) := Lib.hid (Nat.le_trans hL' HLN.out)
        clear ed e1 e2 hJN hr' a0 a1 hL' hdd hc HFL
        have hz4 := zero4
        go_wp2_with fail
        clear hz4
        refine Calls.mono (crash_any HA4.out (fun _ => 0) (fun i hi => ⟨by decide, by decide⟩)) ?_
        rintro e w5 ⟨⟨v5, rfl⟩, F5, hA5, hf5, hs5⟩
        have HB5 := Lib.hid (HB4.out.trans (hf5.below (by have := HA4.out.lt HA4.out.fg; omega) fun k hk => (HA4.out.lt hk).1))
        have HA5 := Lib.hid hA5
        clear hA5 hf5 hs5 HA4 HB4
        go_wp2_with fail
        have hO := open_any HA5.out
        unfold OpenOut at hO
        rw [HE.out.1, HE.out.2] at hO
        refine Calls.mono hO ?_
        clear hO
        rintro e w6 ⟨F6, hA6, hf6, hs6, h⟩
        rcases h with ⟨h0, _⟩ | ⟨-, kb, A7, c7, lo, hi', rfl, -, -, -, hlc, hcm, -, -, -, -⟩
        · exact absurd rfl h0
        have HB6 := Lib.hid (HB5.out.trans (hf6.below (by have := HA5.out.lt HA5.out.fg; omega) fun k hk => (HA5.out.lt hk).1))
        obtain ⟨y, hy⟩ : ∃ y, y = L'.length := ⟨_, rfl⟩
        rw [← hy] at HLL ⊢
        have u9 : (y : Int) ≤ (i : Int) := by have := HLL.out; omega
        clear hA6 hf6 hs6 hlc hcm hy HA5 HB5
        go_wp2_with fail
        refine Calls.mono (AW.out _ (by have := HB6.out; rw [HG.out] at this; exact this)) ?_
        rintro e w8 ⟨rfl, hb⟩
        have HBz := Lib.hid hb
        clear hb
        go_wp2_with fail
        go_ret
        exact ⟨rfl, HBz.out⟩
end Go.Proofs.Ytmkijkkddoamgaa.Jo
