/-
  The walk of BundleCycles.
-/
import Derived.Test.YtelplccbcbegkaaBundleAwake
namespace Go.Proofs.Ytelplccbcbegkaa.Ord
set_option linter.unusedVariables false
open Go.Proofs.Ytelplccbcbegkaa.Gr (E Path Inside OK outs intos Cyc putL edgesTo)
open Go.Proofs.Ytelplccbcbegkaa.GrW (isV growL canGrow hasE)
theorem FitsC.det {n : Nat} {L : List (List Int)} {P A : List Nat} {more : Int} {es : List (Int × Int)} {k k2 : Nat} (h : FitsC n L P A more es k) (h2 : FitsC n L P A more es k2) : k = k2 := by
  unfold FitsC at h h2
  by_cases hc : canGrow n more = true
  · rw [if_pos hc] at h h2
    obtain ⟨_, _, _, _, h⟩ := h
    obtain ⟨_, _, _, _, h2⟩ := h2
    exact (h.det h2).2.1
  · rw [if_neg hc] at h h2
    rw [h, h2]
/-- What the statement asks of a cycle. -/
structure CycOK (n : Nat) (L : List (List Int)) (es : List (Int × Int)) (N : Nat) (l : List Nat) : Prop where
  some_ : 0 < l.length
  nod : l.Nodup
  lt : ∀ x ∈ l, x < N
  edge : ∀ i (hi : i < l.length), hasE n L ((l[i] : Nat) : Int) ((l[(i + 1) % l.length]'(Nat.mod_lt _ (by omega)) : Nat) : Int) = true ∨ (((l[i] : Nat) : Int), ((l[(i + 1) % l.length]'(Nat.mod_lt _ (by omega)) : Nat) : Int)) ∈ es
theorem CycOK.of {n t : Nat} {L L' : List (List Int)} {P A P' A' l : List Nat} {es : List (Int × Int)} {i : Nat} {hi : i < es.length} (hs : OSt n L P A) (h : Went (n + t) (growL L t) (gro P n t) (gro A n t) es i 25 L' P' A') (hc : OrW.CycL L' es[i] l) : CycOK n L es (n + t) l := by
  obtain ⟨hi2, a, b, ha, hb, hx, hp, hr⟩ := h.stop
  obtain ⟨a', b', hx', hc⟩ := hc
  rw [hx] at hx'
  have e1 : (a : Int) = (a' : Int) := congrArg Prod.fst hx'
  have e2 : (b : Int) = (b' : Int) := congrArg Prod.snd hx'
  obtain rfl : a = a' := by omega
  obtain rfl : b = b' := by omega
  have hmem : ((a : Int), (b : Int)) ∈ es := by rw [← hx]; exact List.getElem_mem hi
  have hst := hr.st (hs.gro t)
  have hed : ∀ x y : Nat, E L' x y → hasE n L (x : Int) (y : Int) = true ∨ ((x : Int), (y : Int)) ∈ es := fun x y hxy => by
    rcases (hr.edge (hs.gro t) x y).1 hxy with h | h
    · exact .inl ((Gr.mem_has hs.ok).1 ((mem_edgesTo' hs.ok).2 ((grow_edge hs.ok).1 h)))
    · exact .inr (List.mem_of_mem_take h)
  rcases hc with ⟨rfl, rfl⟩ | ⟨hne, hw⟩
  · refine ⟨by simp, by simp, fun x hx => ?_, fun i hi => ?_⟩
    · have : x = a := by simpa using hx
      omega
    · have : i = 0 := by simp at hi; omega
      subst this
      exact .inr (by simpa using hmem)
  · obtain ⟨d, hd, hl, hall⟩ := hw.far
    obtain ⟨h1, h2, h3⟩ := hw.edges
    refine ⟨by omega, hw.nodup, fun x hx => ?_, fun i hi => ?_⟩
    · obtain ⟨e, -, he⟩ := hall x hx
      exact he.lt hst.ok ha
    · by_cases hlast : i + 1 < l.length
      · have e : (i + 1) % l.length = i + 1 := Nat.mod_eq_of_lt hlast
        have := hed _ _ (h3 i hlast)
        simp only [e]
        exact this
      · have e : (i + 1) % l.length = 0 := by
          have : i + 1 = l.length := by omega
          rw [this, Nat.mod_self]
        have g1 : l[i] = a := by
          rw [List.getLast?_eq_getElem?] at h2
          have : l.length - 1 = i := by omega
          rw [this, List.getElem?_eq_getElem hi] at h2
          exact Option.some.inj h2
        have g2 : l[0]'(by omega) = b := by
          rw [List.head?_eq_getElem?, List.getElem?_eq_getElem (by omega)] at h1
          exact Option.some.inj h1
        simp only [e, g1, g2]
        exact .inr hmem
end Go.Proofs.Ytelplccbcbegkaa.Ord
namespace Go.Proofs.Ytelplccbcbegkaa.OrW
set_option linter.unusedVariables false
open Go Go.RowKit Go.Maps Go.Proofs Go.Proofs.Ytelplccbcbegkaa Go.Proofs.Ytelplccbcbegkaa.Wd Go.Proofs.Ytelplccbcbegkaa.GrW Go.Proofs.Ytelplccbcbegkaa.Ord
open Go.Proofs.Ytelplccbcbegkaa.Gr (OK putL outs intos Path edgesTo ev)
theorem tmod8 (x : Nat) : (x : Int).tmod 8 = ((x % 8 : Nat) : Int) := by rw [Int.tmod_eq_emod_of_nonneg (Int.natCast_nonneg _)]; omega
theorem eql_edges (r1 r2 s1 s2 : Int) (W : World) : (binOp .eql 34 (.agg #[.int .i64 r1, .int .i64 r2]) (.agg #[.int .i64 s1, .int .i64 s2])).run Try.prog W = .ok (.bool (r1 == s1 && r2 == s2)) W := by
  rw [run_eql_struct, run_equalIn_agg W 9999 _ _ _ edge_struct edge_stood]
  go_simp
  by_cases h1 : r1 = s1
  · by_cases h2 : r2 = s2 <;> simp [h1, h2]
  · simp [h1]
set_option maxRecDepth 100000 in
set_option maxHeartbeats 16000000 in
theorem cycles_walk (nb : Nat) (hnb : nb < 256) (A : Option Addr) (c : Nat) (l : List (Int × Int)) (n : Nat) (hn : n = l.length) (hnc : n ≤ c) (hcm : c ≤ maxLen) (mb : Nat) (hmb : mb < 256) (B : Option Addr) (d : Nat) (l2 : List (Int × Int)) (n2 : Nat) (hn2 : n2 = l2.length) (hnd : n2 ≤ d) (hdm : d ≤ maxLen) (w : World) (hI : EdgesAt w w.heap.size A l) (hJ : EdgesAt w w.heap.size B l2) :
    Calls Try.prog 3 #[.int .u8 nb, .slice A n c, .int .u8 mb, .slice B n2 d] w fun e w' => e = .returned (.bool true) ∧ Below w.heap.size w w' := by
  have HOF := Lib.hid (ofB_any nb hnb A c l n hn hnc hcm w hI)
  have hMb : 2 ≤ 2 + nb % 30 ∧ 2 + nb % 30 ≤ 31 := ⟨Nat.le_add_right 2 _, Nat.add_le_add_left (Nat.le_of_lt_succ (Nat.mod_lt nb (by decide))) 2⟩
  generalize 2 + nb % 30 = M at *
  obtain ⟨k, hk⟩ : ∃ k, k = mb % 8 := ⟨_, rfl⟩
  have HK0 : Hid ((mb : Int).tmod 8 = (k : Int)) := Lib.hid (by rw [hk]; exact tmod8 mb)
  have hk8 : k ≤ 7 := by rw [hk]; exact Nat.le_of_lt_succ (Nat.mod_lt mb (by decide))
  obtain ⟨Mk, hMk⟩ : ∃ Mk, Mk = M + k := ⟨_, rfl⟩
  have HMK := Lib.hid hMk
  have HAK : Hid ((M : Int) + (k : Int) = (Mk : Int)) := Lib.hid (by omega)
  have hMk38 : Mk ≤ 38 := by omega
  have HKW : Hid (wrap64 (k : Int) = (k : Int)) := Lib.hid (IntWalk.wrap64_in _ (by omega))
  have hM1 := hMb.1
  have hM2 := hMb.2
  have hMk1 : 2 ≤ Mk := by omega
  have HJ := Lib.hid hJ
  have HN2 := Lib.hid hn2
  clear hk hMk hmb hI hJ hn hnc hcm hMb hn2
  go_enter Try.func3, Try.ntmps3
  go_wp2_with fail
  refine Calls.mono HOF.out ?_
  rintro e w1 ⟨o, rfl, h1⟩
  have HO1 := Lib.hid h1
  clear HOF h1
  have hk0 := HK0.out
  have hak := HAK.out
  have hkw := HKW.out
  go_wp2_with fail
  clear hk0 hkw
  refine Calls.mono (within_any B d l2 n2 HN2.out hnd hdm Mk (by omega) (by omega) w1 (((EdgesAt.below HJ.out HO1.out.low)).more' HO1.out.low.size)) ?_
  rintro e w2 ⟨A2, c2, rfl, b2, o2⟩
  obtain ⟨F, L, P, Ax, hO, hS⟩ := HO1.out
  obtain ⟨es, hes⟩ : ∃ es, es = withinL Mk l2 := ⟨_, rfl⟩
  have HES : Hid (∀ x ∈ es, ∃ a b : Nat, a < Mk ∧ b < Mk ∧ x = ((a : Int), (b : Int))) := Lib.hid (by rw [hes]; exact withinL_each (by omega) l2)
  have hq40 : es.length ≤ 40 := by rw [hes]; exact withinL_len _ _
  rw [← hes] at o2 ⊢
  clear hes
  obtain ⟨q, hq⟩ : ∃ q, q = es.length := ⟨_, rfl⟩
  rw [← hq] at o2 hq40 ⊢
  have HQ := Lib.hid hq
  have HEA := Lib.hid (EdgesAt.of_own o2).1
  have HEB : Hid (∀ b off, A2 = some ⟨b, off, none⟩ → b < w2.heap.size) := Lib.hid (fun b off e => by
    subst e
    obtain ⟨_, _, h2⟩ := own_row o2 (g := b) rfl
    exact h2.lt)
  have HO2 := Lib.hid (hO.below b2)
  have HS := Lib.hid hS
  clear HO1 hO hS o2 b2 hq hak HK0 HKW
  go_wp2_with fail
  refine Calls.mono (cycle_any w2 w.heap.size o M F L P Ax HO2.out.ord HS.out (by omega) (k : Int) A2 q c2 es HQ.out (by omega) HEA.out HEB.out) ?_
  intro e w3 h3
  have h3' : ∃ kf : Nat, FitsC M L P Ax (k : Int) es kf ∧ ∃ (qc cc : Nat) (Ac : Option Addr), e = .returned (.slice Ac qc cc) ∧ Below w2.heap.size w2 w3 ∧ ((kf ≠ 25 ∧ qc = 0) ∨ (kf = 25 ∧ ∃ l : List Nat, CycOK M L es Mk l ∧ qc = l.length ∧ w3.ownsRow w2.heap.size 3 1 (.slice Ac qc cc) qc (iv (zs l)))) := by
    obtain ⟨kf, hf, h3⟩ := h3
    refine ⟨kf, hf, ?_⟩
    rcases h3 with ⟨h25, rfl, hb⟩ | ⟨h25, hcg, i, hi, L', P', A', l, hw, hcl, v, rfl, hov, hb⟩
    · exact ⟨0, 0, none, rfl, hb, .inl ⟨h25, rfl⟩⟩
    · obtain ⟨Ac, cc, rfl⟩ := own_form hov
      rw [zs_length] at hov ⊢
      rw [Int.toNat_natCast] at hw
      exact ⟨l.length, cc, Ac, rfl, hb, .inr ⟨h25, l, by rw [HMK.out]; exact CycOK.of (hi := hi) HS.out hw hcl, rfl, hov⟩⟩
  clear h3
  obtain ⟨kf, hf, qc, cc, Ac, rfl, b3, hcase⟩ := h3'
  have HO3 := Lib.hid (HO2.out.below b3)
  have HEA3 := Lib.hid ((EdgesAt.below HEA.out b3).more' b3.size)
  have HEB3 : Hid (∀ b off, A2 = some ⟨b, off, none⟩ → b < w3.heap.size) := Lib.hid (fun b off e => Nat.lt_of_lt_of_le (HEB.out b off e) b3.size)
  have HF := Lib.hid hf
  have HC := Lib.hid hcase
  clear HO2 HEA HEB b3 hf hcase
  go_wp2_with fail
  refine Calls.mono (fits_any w3 w.heap.size o M F L P Ax HO3.out.ord HS.out (by omega) (k : Int) HS.out.hok A2 q c2 es HQ.out (by omega) HEA3.out HEB3.out) ?_
  rintro e w4 ⟨kf2, rfl, hf2, b4⟩
  obtain rfl := HF.out.det hf2
  have HO4 := Lib.hid (HO3.out.below b4)
  have HEA4 := Lib.hid ((EdgesAt.below HEA3.out b4).more' b4.size)
  have HB34 := Lib.hid b4
  clear HO3 HEA3 HEB3 hf2 b4 HF
  by_cases h25 : kf = 25
  · have e25 : ((kf : Int) == 25) = true := by rw [beq_iff_eq]; omega
    obtain ⟨-, lc, hok, hqc, o3⟩ := HC.out.resolve_left (fun e => e.1 h25)
    have HOK := Lib.hid hok
    have HQC := Lib.hid hqc
    have HR := Lib.hid (own_belowW o3 HB34.out)
    have hq0 : (0 : Int) < (qc : Int) := by have := hok.some_; omega
    have hqcM : qc ≤ 38 := by
      rw [hqc]
      have := nodup_le hok.nod hok.lt
      omega
    have eq0 : decide ((0 : Int) < (qc : Int)) = true := decide_eq_true hq0
    have hmm := @run_makeMap Try.prog
    have hq1 : 0 < qc := by omega
    have eqd : decide (0 < qc) = true := decide_eq_true hq1
    clear hok hqc o3 HC h25 HB34
    go_wp2_with fail
    clear hmm eq0 eqd e25
    have hom := World.ownsMap_made (H := Unit) w4 Try.prog 3 (plainElem Try.prog 3)
    have HT0 : Hid (Below w4.heap.size w4 (w4.alloc (.map #[] 0)) ∧ ∃ D, OM (w4.alloc (.map #[] 0)) w4.heap.size 0 D ∧ InMap D (zs (lc.take 0))) := Lib.hid ⟨(Below.refl _ _).alloc (Nat.le_refl _) _, _, hom, by simpa [zs] using InMap.nil⟩
    clear hom
    go_loopw [57] (fun ix wr => ∃ i : Nat, i ≤ qc ∧ ix = .int .i64 i ∧ Hid (Below w4.heap.size w4 wr ∧ ∃ D, OM wr w4.heap.size i D ∧ InMap D (zs (lc.take i)))) (fun ix _ => qc - (intOf ix).toNat)
    case atStart => exact ⟨0, Nat.zero_le _, rfl, HT0⟩
    case round =>
      obtain ⟨i, hi, rfl, HT⟩ := hrel
      clear HT0
      by_cases hlt : i < qc
      · have hil : i < lc.length := by have := HQC.out; omega
        obtain ⟨j2, hj2, hj2q⟩ : ∃ j2, j2 = (i + 1) % qc ∧ j2 < qc := ⟨_, rfl, Nat.mod_lt _ (by omega)⟩
        have hjl : j2 < lc.length := by have := HQC.out; omega
        obtain ⟨D, hMp, hIP⟩ := HT.out.2
        have HB4 := Lib.hid HT.out.1
        have hrow := IRow.of_own (l := zs lc) (by rw [zs_length, ← HQC.out]; exact own_belowW HR.out HB4.out)
        obtain ⟨b1, off1, rfl, hb1, p1⟩ := hrow.at_ (i := i) (by rw [zs_length]; exact hil)
        obtain ⟨b1', off1', e1, hb1', p2⟩ := hrow.at_ (i := j2) (by rw [zs_length]; exact hjl)
        simp only [Option.some.injEq, Addr.mk.injEq, and_true] at e1
        obtain ⟨rfl, rfl⟩ := e1
        rw [zs_at hil] at p1
        rw [zs_at hjl] at p2
        have hed := HOK.out.edge i hil
        have hej : (i + 1) % lc.length = j2 := by rw [hj2, HQC.out]
        simp only [hej] at hed
        have hv38 := HOK.out.lt _ (List.getElem_mem hil)
        have hw38 := HOK.out.lt _ (List.getElem_mem hjl)
        have hnin : ((lc[i] : Nat) : Int) ∉ zs (lc.take i) := by
          rw [mem_zs]
          intro hm
          obtain ⟨k2, hk2, e⟩ := List.mem_take_iff_getElem.1 hm
          exact List.pairwise_iff_getElem.1 HOK.out.nod k2 i (by omega) hil (by omega) e
        have hnx : lc.take (i + 1) = lc.take i ++ [lc[i]] := List.take_succ_eq_append_getElem hil
        have HTM : Hid (((i : Int) + 1).tmod (qc : Int) = (j2 : Int)) := Lib.hid (by
          rw [hj2, Int.tmod_eq_emod_of_nonneg (by omega), Int.natCast_emod]; rfl)
        generalize lc[i] = v at *
        generalize lc[j2] = x at *
        have HED := Lib.hid hed
        have HNI := Lib.hid hnin
        have HNX := Lib.hid hnx
        have HIP := Lib.hid hIP
        have HMP := Lib.hid hMp
        have HHAS := Lib.hid (has_o (HO4.out.below HB4.out).ord HS.out.ok (by omega) (v : Int) (x : Int))
        have i1 : (0 : Int) ≤ (i : Int) := by omega
        have i2 : (i : Int) < (qc : Int) := by omega
        have i3 : (0 : Int) ≤ (j2 : Int) := by omega
        have i4 : (j2 : Int) < (qc : Int) := by omega
        have HLT := Lib.hid hlt
        have htm := HTM.out
        have i5 : (qc : Int) ≠ 0 := by omega
        have i6 : ((qc : Int) == 0) = false := by rw [beq_eq_false_iff_ne]; omega
        clear HT hMp hIP hrow hb1 hb1' hed hnin hnx hj2 hej hlt hil hjl
        go_wp2_with fail
        refine Calls.mono HHAS.out ?_
        rintro e w5 ⟨rfl, b5⟩
        generalize hasE M L (v : Int) (x : Int) = bh at *
        clear p1 p2 HHAS htm
        have HB5 := Lib.hid b5
        clear b5
        go_wp2_with fail
        generalize hwx : wr = wx at *
        clear hwx
        have HT5 : Hid (Below wx.heap.size wx w5 ∧ bh = (bh || decide (((v : Int), (x : Int)) ∈ es.take 0))) := Lib.hid ⟨HB5.out, by simp⟩
        clear HB5
        go_loopw [20, 76] (fun iv jx wr => ∃ (j : Nat) (bi : Bool), j ≤ q ∧ jx = .int .i64 j ∧ iv = .bool bi ∧ Hid (Below wx.heap.size wx wr ∧ bi = (bh || decide (((v : Int), (x : Int)) ∈ es.take j)))) (fun _ jx _ => q - (intOf jx).toNat)
        case atStart => exact ⟨0, bh, Nat.zero_le _, rfl, rfl, HT5⟩
        case round =>
          obtain ⟨j, bi, hj, rfl, rfl, HT⟩ := hrel
          clear HT5
          by_cases hlt2 : j < q
          · have hjl : j < es.length := by have := HQ.out; omega
            obtain ⟨b2, off2, rfl, hb2, p1, p2⟩ := HEA4.out j hjl
            have hbx := HB4.out.trans (HT.out.1.mono HB4.out.size)
            have q1 := (hbx.cell (p := ⟨b2, _, none⟩) hb2).trans p1
            have q2 := (hbx.cell (p := ⟨b2, _, none⟩) hb2).trans p2
            have hnx2 : es.take (j + 1) = es.take j ++ [es[j]] := List.take_succ_eq_append_getElem hjl
            generalize es[j] = y at *
            obtain ⟨y1, y2⟩ := y
            have hmem : decide (((v : Int), (x : Int)) ∈ es.take (j + 1)) = (decide (((v : Int), (x : Int)) ∈ es.take j) || (y1 == (v : Int) && y2 == (x : Int))) := by
              rw [hnx2, Bool.eq_iff_iff, decide_eq_true_eq, List.mem_append, List.mem_singleton, Bool.or_eq_true, decide_eq_true_eq, Bool.and_eq_true, beq_iff_eq, beq_iff_eq, Prod.mk.injEq]
              exact or_congr Iff.rfl ⟨fun h => ⟨h.1.symm, h.2.symm⟩, fun h => ⟨h.1.symm, h.2.symm⟩⟩
            have HNN : Hid (∀ w', Below wr.heap.size wr w' → Below wx.heap.size wx w' ∧ (bi || (y1 == (v : Int) && y2 == (x : Int))) = (bh || decide (((v : Int), (x : Int)) ∈ es.take (j + 1)))) := Lib.hid (fun w' hb => ⟨HT.out.1.trans (hb.mono HT.out.1.size), by rw [hmem, HT.out.2, Bool.or_assoc]⟩)
            have HBX := Lib.hid (Blk.new_ wr 34 #[.int .i64 y1, .int .i64 y2] rfl)
            have HBB : Hid (Below wr.heap.size wr (wr.alloc (.cells #[.int .i64 y1, .int .i64 y2] 34))) := Lib.hid ((Below.refl _ wr).alloc (Nat.le_refl _) _)
            have j1 : (0 : Int) ≤ (j : Int) := by omega
            have j2' : (j : Int) < (q : Int) := by omega
            have HLT2 := Lib.hid hlt2
            have hql := eql_edges y1 y2 (v : Int) (x : Int)
            have HQL := Lib.hid hql
            clear HT hbx hb2 p1 p2 hnx2 hmem hlt2 hjl hql
            cases bi with
            | true =>
              have HN := Lib.hid (HNN.out _ HBB.out)
              clear HNN
              go_wp2_with fail
              go_roundw
              case rel => exact ⟨j + 1, true, by have := HLT2.out; omega, by go_num, rfl, HN⟩
              case measure => simp [intOf]; have := HLT2.out; omega
            | false =>
              have HN := Lib.hid (HNN.out _ HBB.out)
              clear HNN
              rw [Bool.false_or] at HN
              generalize hyy : (y1 == (v : Int) && y2 == (x : Int)) = by_ at *
              have hql := HQL.out
              clear HQL hyy
              go_wp2_with fail
              go_roundw
              case rel => exact ⟨j + 1, by_, by have := HLT2.out; omega, by go_num, rfl, HN⟩
              case measure => simp [intOf]; have := HLT2.out; omega
          · obtain rfl : j = q := by omega
            have hbi : bi = true := by
              rw [HT.out.2, List.take_of_length_le (by have := HQ.out; omega), Bool.or_eq_true, decide_eq_true_eq]
              exact HED.out
            subst hbi
            have HBW := Lib.hid HT.out.1
            have hMp := om_keep HMP.out (HBW.out.block _ (om_lt HMP.out))
            have hkey : keyOf Try.prog 3 (.int .i64 (v : Int)) = some (.int .i64 (v : Int)) := keyOf_int_mk Try.underlying3 (WalkArith.wf_i64 (by omega))
            obtain ⟨cz, hrun, hat, -⟩ := hMp.lookup_int law Try.underlying31 Try.underlying3 (zeroI wr) hkey
            have hcz := HIP.out.at_ hat
            rw [if_neg HNI.out] at hcz
            subst hcz
            have hlen : i < maxLen := by unfold maxLen; omega
            clear HT hat HED
            go_upto_region 22 with (first | (at_mapUpdate; refine wpList_mapUpdate_own _ rfl _ _ _ 31 rfl 3 3 law Try.underlying31 _ w4.heap.size i D rfl hMp hlen _ _ _ rfl rfl hkey _ [] (plainElem_int Try.underlying3 (by decide)) ?_; intro w7 hown7 hgrow7) | fail)
            have hIP7 := HIP.out.put HNI.out
            obtain ⟨cz, hrun7, hat7, -⟩ := hown7.lookup_int law Try.underlying31 Try.underlying3 (zeroI w7) hkey
            have hcz := hIP7.at_ hat7
            rw [if_pos (by simp)] at hcz
            subst hcz
            have HN : Hid (Below w4.heap.size w4 w7 ∧ ∃ D, OM w7 w4.heap.size (i + 1) D ∧ InMap D (zs (lc.take (i + 1)))) := Lib.hid (by
              refine ⟨(HB4.out.trans (HBW.out.mono HB4.out.size)).grown hgrow7 (Nat.le_trans HB4.out.size HBW.out.size) (fun j hj => by cases hj; exact Nat.le_refl _), _, hown7, ?_⟩
              rw [HNX.out, zs_append]
              exact hIP7)
            clear hMp hrun hown7 hgrow7 hIP7 hat7 hlen hkey HBW HB4 HMP
            go_wp2_with fail
            go_roundw
            case rel => exact ⟨i + 1, by have := HLT.out; omega, by go_num, HN⟩
            case measure => simp [intOf]; have := HLT.out; omega
      · obtain rfl : i = qc := by omega
        have HB4 := Lib.hid HT.out.1
        have HL := Lib.hid (len_o (HO4.out.below HB4.out).ord)
        have HLW := Lib.hid (HO4.out.low.trans (HB4.out.mono HO4.out.low.size))
        clear HT
        go_wp2_with fail
        refine Calls.mono HL.out ?_
        rintro e w' ⟨rfl, rfl⟩
        have eMM : ((M : Int) == (M : Int)) = true := by simp
        go_wp2_with fail
        refine Calls.mono (awakeB_any _) ?_
        rintro e w9 ⟨rfl, b9⟩
        have HB9 := Lib.hid (HLW.out.trans (b9.mono HLW.out.size))
        clear HLW b9
        go_wp2_with fail
        go_ret
        exact ⟨rfl, HB9.out⟩
  · have e25 : ((kf : Int) == 25) = false := by rw [beq_eq_false_iff_ne]; omega
    obtain ⟨-, rfl⟩ := HC.out.resolve_right (fun e => h25 e.1)
    have hmm := @run_makeMap Try.prog
    clear HC h25 HB34
    go_wp2_with fail
    clear hmm
    have HT0 : Hid (Below w4.heap.size w4 (w4.alloc (.map #[] 0))) := Lib.hid ((Below.refl _ _).alloc (Nat.le_refl _) _)
    go_loopw [57] (fun ix wr => ix = .int .i64 0 ∧ Hid (Below w4.heap.size w4 wr)) (fun ix _ => 0)
    case atStart => exact ⟨rfl, HT0⟩
    case round =>
      obtain ⟨rfl, HB4⟩ := hrel
      clear HT0
      have HL := Lib.hid (len_o (HO4.out.below HB4.out).ord)
      have HLW := Lib.hid (HO4.out.low.trans (HB4.out.mono HO4.out.low.size))
      go_wp2_with fail
      refine Calls.mono HL.out ?_
      rintro e w' ⟨rfl, rfl⟩
      have eMM : ((M : Int) == (M : Int)) = true := by simp
      go_wp2_with fail
      refine Calls.mono (awakeB_any _) ?_
      rintro e w9 ⟨rfl, b9⟩
      have HB9 := Lib.hid (HLW.out.trans (b9.mono HLW.out.size))
      clear HLW b9
      go_wp2_with fail
      go_ret
      exact ⟨rfl, HB9.out⟩
end Go.Proofs.Ytelplccbcbegkaa.OrW
