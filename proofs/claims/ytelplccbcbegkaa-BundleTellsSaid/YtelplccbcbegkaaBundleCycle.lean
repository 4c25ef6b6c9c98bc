/-
  The walk of Cycle.
-/
import Derived.Test.YtelplccbcbegkaaBundleSet
namespace Go.Proofs.Ytelplccbcbegkaa.OrW
set_option linter.unusedVariables false
open Go Go.RowKit Go.Maps Go.Proofs Go.Proofs.Ytelplccbcbegkaa Go.Proofs.Ytelplccbcbegkaa.Wd Go.Proofs.Ytelplccbcbegkaa.GrW Go.Proofs.Ytelplccbcbegkaa.Ord
open Go.Proofs.Ytelplccbcbegkaa.Gr (OK putL outs intos Path E edgesTo ev)

/-- What the cycle is of the first edge that is refused. -/
def CycL (L : List (List Int)) (x : Int × Int) (l : List Nat) : Prop := ∃ a b : Nat, x = ((a : Int), (b : Int)) ∧ ((a = b ∧ l = [a]) ∨ (a ≠ b ∧ WayTo L a b l))
/-- What Cycle answers. -/
def CycleOut (n : Nat) (L : List (List Int)) (P A : List Nat) (more : Int) (es : List (Int × Int)) (w : World) (e : Ending) (w' : World) : Prop :=
  ∃ k : Nat, FitsC n L P A more es k ∧ ((k ≠ 25 ∧ e = .returned (.slice none 0 0) ∧ Below w.heap.size w w') ∨
    (k = 25 ∧ canGrow n more = true ∧ ∃ (i : Nat) (hi : i < es.length) (L' : List (List Int)) (P' A' l : List Nat), Went (n + more.toNat) (growL L more.toNat) (gro P n more.toNat) (gro A n more.toNat) es i 25 L' P' A' ∧ CycL L' es[i] l ∧ NumsOut w (zs l) e w'))
/-- A graph that takes edges, while other blocks stay. -/
structure TakeG (w w3 w3a w4 wr : World) (g M : Nat) (G : List (List Int)) (F : Nat → Prop) : Prop where
  gr : GAt wr w3.heap.size F g M G
  own : ∀ k, F k → (w3.heap.size ≤ k ∧ k < w3a.heap.size) ∨ w4.heap.size ≤ k
  lt : ∀ k, F k → k < wr.heap.size
  fr : Fr (fun k => w3.heap.size ≤ k ∧ k < w3a.heap.size) w4 wr
theorem TakeG.below {w w3 w3a w4 wr w' : World} {g M : Nat} {G : List (List Int)} {F : Nat → Prop} (h : TakeG w w3 w3a w4 wr g M G F) (hb : Below wr.heap.size wr w') : TakeG w w3 w3a w4 w' g M G F :=
  ⟨h.gr.below hb, h.own, fun k e => Nat.lt_of_lt_of_le (h.lt k e) hb.size, h.fr.trans (Fr.of_below (F := fun _ => False) hb) (fun _ _ e => e.elim)⟩
theorem TakeG.upd {w w3 w3a w4 wr w' : World} {g M : Nat} {G G' : List (List Int)} {F : Nat → Prop} (h : TakeG w w3 w3a w4 wr g M G F) (hu : Upd w3.heap.size F g M G' wr w') : ∃ F', TakeG w w3 w3a w4 w' g M G' F' := by
  obtain ⟨F', q1, q2, q3⟩ := hu
  refine ⟨_, q1.exist, fun k e => ?_, fun k e => e.2, h.fr.trans q2 (fun k hk e => ?_)⟩
  · rcases q3 k e.1 with e2 | e2
    · exact h.own k e2
    · exact .inr (Nat.le_trans h.fr.size e2)
  · rcases h.own k e with e2 | e2
    · exact e2
    · omega
set_option maxRecDepth 100000 in
set_option maxHeartbeats 8000000 in
theorem cycle_any' (w : World) (base o n : Nat) (F : Nat → Prop) (L : List (List Int)) (P A : List Nat) (h : OAt w base F o n L P A) (hs : OSt n L P A) (hn : n ≤ 10000) (more : Int) (Ae : Option Addr) (q c : Nat) (es : List (Int × Int)) (hq : q = es.length) (hqm : q ≤ 1000000) (hE : EdgesAt w w.heap.size Ae es) (hAe : ∀ b off, Ae = some ⟨b, off, none⟩ → es ≠ [] → b < w.heap.size) :
    Calls Try.prog 11 #[.pointer (some ⟨o, 0, none⟩), .int .i64 more, .slice Ae q c] w (CycleOut n L P A more es w) := by
  have HO := Lib.hid h
  have HS := Lib.hid hs
  have HQ := Lib.hid hq
  have HE := Lib.hid hE
  have HAE := Lib.hid hAe
  have HFI := Lib.hid (fits_any' w base o n F L P A h hs hn more hs.hok Ae q c es hq hqm hE hAe)
  clear h hs hq hE hAe
  go_enter Try.func11, Try.ntmps11
  go_wp2_with fail
  refine Calls.mono HFI.out ?_
  rintro e w1 ⟨k, rfl, hfc, b1⟩
  have HFC := Lib.hid hfc
  have HB1 := Lib.hid b1
  clear HFI hfc b1
  by_cases hk : k = 25
  · have ek : ((k : Int) != 25) = false := by rw [hk]; rfl
    go_wp2_with fail
    refine Calls.mono (copyO_any w1 base o n F L P A (HO.out.below HB1.out) HS.out.ok HS.out.perm (by omega)) ?_
    rintro e w2 ⟨o2, rfl, hc2, b2⟩
    have HC2 := Lib.hid hc2
    have HB2 := Lib.hid (HB1.out.trans (b2.mono HB1.out.size))
    have HB12 := Lib.hid b2
    clear hc2 b2
    go_wp2_with fail
    refine Calls.mono (bgrow_any' w2 w1.heap.size o2 n _ L P A HC2.out HS.out hn more HS.out.hok Ae q c es HQ.out hqm ((EdgesAt.below HE.out HB2.out).more' HB2.out.size) (fun b off e hne e2 => by have := HAE.out b off e hne; have := HB1.out.size; omega)) ?_
    intro e w3 h3
    unfold BGrowOut at h3
    have hfc := HFC.out
    unfold FitsC at hfc
    by_cases hc : canGrow n more = true
    · rw [if_pos hc] at h3 hfc
      obtain ⟨i, k2, L', P', A', rfl, hw, hu⟩ := h3
      obtain ⟨i0, L0, P0, A0, hw0⟩ := hfc
      have hkk := (hw.det hw0).2.1
      have hk25 : k2 = 25 := hkk.trans hk
      subst hk25
      obtain ⟨hO3, hb3⟩ := hu.low (B := w1.heap.size) (fun j e => e) HB12.out.size
      have HB13 := Lib.hid (HB12.out.trans hb3)
      have HB3 := Lib.hid (HB1.out.trans (HB13.out.mono HB1.out.size))
      have hst := hw.st (HS.out.gro more.toNat)
      obtain ⟨hi, a, b, ha, hb, hx, hp, -⟩ := hw.stop
      have HO3 := Lib.hid hO3
      have HST := Lib.hid hst
      have HCG := Lib.hid hc
      have hnm : n + more.toNat ≤ 10000 := by unfold canGrow at hc; simp at hc; omega
      have HFF : Hid (∀ (l : List Nat) (e : Ending) (w' : World), ((a = b ∧ l = [a]) ∨ (a ≠ b ∧ WayTo L' a b l)) → NumsOut w (zs l) e w' → CycleOut n L P A more es w e w') := Lib.hid (fun l e w' h1 h2 => ⟨k, HFC.out, .inr ⟨hk, hc, i, hi, L', P', A', l, hw, ⟨a, b, hx, h1⟩, h2⟩⟩)
      have HP := Lib.hid hp
      obtain ⟨bb, off, rfl, hbb, p1, p2⟩ := HE.out i hi
      have q1 := (HB3.out.cell (p := ⟨bb, _, none⟩) hbb).trans p1
      have q2 := (HB3.out.cell (p := ⟨bb, _, none⟩) hbb).trans p2
      rw [hx] at q1 q2
      have hiq : i < q := by have := HQ.out; omega
      have i1 : (0 : Int) ≤ (i : Int) := by omega
      have i2 : (i : Int) < (q : Int) := by omega
      clear hw hw0 hkk hu hO3 hb3 hst hx hp p1 p2 hc HFC hbb hi
      generalize hN : n + more.toNat = N at *
      clear hN
      by_cases hab : a = b
      · subst hab
        have eab : ((a : Int) == (a : Int)) = true := by simp
        have HF : Hid (CycleOut n L P A more es w (.returned (.slice (some ⟨w3.heap.size + 1, 0, none⟩) 1 1)) ((w3.alloc (.cells #[.int .i64 (a : Nat), .int .i64 (a : Nat)] 34)).alloc (.cells #[.int .i64 (a : Nat)] 3))) := Lib.hid (by
          have hB := (Blk.new_ (w3.alloc (.cells #[.int .i64 (a : Nat), .int .i64 (a : Nat)] 34)) 3 #[.int .i64 (a : Nat)] (n := w3.heap.size + 1) (by simp))
          exact HFF.out [a] _ _ (.inl ⟨rfl, rfl⟩) ⟨_, rfl, hB.ownS (by have := HB3.out.size; omega) 1 1 rfl (by decide), (HB3.out.alloc HB3.out.size _).alloc (by have := HB3.out.size; simp; omega) _⟩)
        clear HFF HP HST HO3 HB3 HB13
        go_wp2_with fail
        go_ret
        exact HF.out
      · have eab : ((a : Int) == (b : Int)) = false := by rw [beq_eq_false_iff_ne]; omega
        have HNE := Lib.hid hab
        clear hab
        have HBX := Lib.hid (Blk.new_ w3 34 #[.int .i64 (a : Nat), .int .i64 (b : Nat)] rfl)
        have HO4 := Lib.hid (HO3.out.below ((Below.refl _ w3).alloc (Nat.le_refl _) (.cells #[.int .i64 (a : Nat), .int .i64 (b : Nat)] 34)))
        have HB4 := Lib.hid (HB3.out.alloc HB3.out.size (.cells #[.int .i64 (a : Nat), .int .i64 (b : Nat)] 34))
        clear HO3
        go_wp2_with fail
        clear q1 q2
        generalize hW4 : w3.alloc (.cells #[.int .i64 (a : Nat), .int .i64 (b : Nat)] 34) = w4 at *
        clear hW4
        refine Calls.mono (len_o HO4.out) ?_
        rintro e w' ⟨rfl, rfl⟩
        go_wp2_with fail
        refine Calls.mono (GrW.new_any (N : Int) w4) ?_
        intro e w5 h5
        unfold NewOut at h5
        rw [if_pos (by omega), Int.toNat_natCast] at h5
        obtain ⟨g, rfl, G5, B5⟩ := h5
        have HG5 := Lib.hid G5.exist
        have HO5 := Lib.hid (HO4.out.below B5)
        have HB5 := Lib.hid (HB4.out.trans (B5.mono HB4.out.size))
        have HS45 := Lib.hid B5.size
        have HS4 := Lib.hid HB4.out.size
        have HBX5 := Lib.hid (HBX.out.below B5 HBX.out.lt)
        have HBL := Lib.hid HBX.out.lt
        clear G5 B5 HO4 HB4 HBX
        go_wp2_with fail
        refine Calls.mono (edges_o HO5.out HST.out.ok (by omega)) ?_
        rintro e w6 ⟨A6, c6, rfl, b6, o6⟩
        have HE6 := Lib.hid (EdgesAt.of_own o6).1
        have HE6B : Hid (∀ b off, A6 = some ⟨b, off, none⟩ → w5.heap.size ≤ b ∧ b < w6.heap.size) := Lib.hid (fun b off e => by
          subst e
          obtain ⟨h1, _, h2⟩ := own_row o6 (g := b) rfl
          exact ⟨h1, h2.lt⟩)
        have HB6 := Lib.hid (HB5.out.trans (b6.mono HB5.out.size))
        have HBX6 := Lib.hid (HBX5.out.below b6 HBX5.out.lt)
        have HT0 : Hid (∃ F, TakeG w w4 w5 w6 w6 g N (takeL (List.replicate (2 * N) []) []) F) := Lib.hid ⟨_, HG5.out.below b6, fun k e => .inl e, fun k e => Nat.lt_of_lt_of_le e.2 b6.size, Fr.refl _ _⟩
        clear HG5 HO5 HB5 HBX5 o6 b6
        obtain ⟨me, hme⟩ : ∃ me, me = (edgesTo L' N).length := ⟨_, rfl⟩
        rw [← hme]
        have HME := Lib.hid hme
        have hmb : me ≤ 1000000000000 := by rw [hme]; have := Gr.edgesTo_length (HST.out.ok.rises (by omega)) N; omega
        clear hme
        go_wp2_with fail
        go_loopw [50] (fun ix wr => ∃ j : Nat, j ≤ me ∧ ix = .int .i64 j ∧ Hid (∃ F, TakeG w w4 w5 w6 wr g N (takeL (List.replicate (2 * N) []) ((edgesTo L' N).take j)) F)) (fun ix _ => me - (intOf ix).toNat)
        case atStart => exact ⟨0, Nat.zero_le _, rfl, HT0⟩
        case round =>
          obtain ⟨j, hj, rfl, HT⟩ := hrel
          clear HT0
          obtain ⟨F, hT⟩ := HT.out
          by_cases hlt : j < me
          · have hjl : j < (edgesTo L' N).length := by have := HME.out; omega
            obtain ⟨b1, off1, rfl, hb1, p1, p2⟩ := HE6.out j hjl
            obtain ⟨x, y, hx, hy, hxy, hex⟩ := edgesTo_each HST.out.ok _ (List.getElem_mem hjl)
            rw [hex] at p1 p2
            have hbe := HE6B.out _ _ rfl
            have hblk : wr.heap[b1]? = w6.heap[b1]? := hT.fr.block b1 hbe.2 (fun e => by omega)
            have q1 := (World.cell?_of_block (w := w6) (a := ⟨b1, off1 + j * 2, none⟩) hblk).trans p1
            have q2 := (World.cell?_of_block (w := w6) (a := ⟨b1, off1 + j * 2 + 1, none⟩) hblk).trans p2
            have hnx : takeL (List.replicate (2 * N) []) ((edgesTo L' N).take (j + 1)) = putL (takeL (List.replicate (2 * N) []) ((edgesTo L' N).take j)) x y := by
              rw [List.take_succ_eq_append_getElem hjl, takeL_snoc, hex, Int.toNat_natCast, Int.toNat_natCast]
            have hok := (takeL_ok (OK.empty N) ((edgesTo L' N).take j) (fun x hx => edgesTo_each HST.out.ok x (List.mem_of_mem_take hx))).1
            have HNX := Lib.hid hnx
            have HOK := Lib.hid hok
            have HTT := Lib.hid (hT.below ((Below.refl _ wr).alloc (Nat.le_refl _) (.cells #[.int .i64 (x : Nat), .int .i64 (y : Nat)] 34)))
            have HBE := Lib.hid (Blk.new_ wr 34 #[.int .i64 (x : Nat), .int .i64 (y : Nat)] rfl)
            have hs4 : w4.heap.size ≤ wr.heap.size := by have := hT.fr.size; have := HB6.out; have := HS45.out; omega
            have i3 : (0 : Int) ≤ (j : Int) := by omega
            have i4 : (j : Int) < (me : Int) := by omega
            have HLT := Lib.hid hlt
            have HXY := Lib.hid hxy
            clear HT hT p1 p2 hbe hblk hnx hok hex hb1 hjl hxy
            generalize takeL (List.replicate (2 * N) []) ((edgesTo L' N).take j) = Gj at *
            go_wp2_with fail
            refine Calls.mono (putG_any HTT.out.gr HOK.out (by omega) (by simp; omega) x y hx hy HXY.out) ?_
            rintro e w8 ⟨bp, rfl, hU⟩
            have HN : Hid (∃ F, TakeG w w4 w5 w6 w8 g N (takeL (List.replicate (2 * N) []) ((edgesTo L' N).take (j + 1))) F) := Lib.hid (by rw [HNX.out]; exact HTT.out.upd hU)
            clear hU HTT HBE q1 q2
            go_wp2_with fail
            go_roundw
            case rel => exact ⟨j + 1, by have := HLT.out; omega, by go_num, HN⟩
            case measure => simp [intOf]; have := HLT.out; omega
          · obtain rfl : j = me := by omega
            have hG : takeL (List.replicate (2 * N) []) ((edgesTo L' N).take j) = L' := by
              rw [HME.out, List.take_length]
              have h1 := takeL_ok (OK.empty N) (edgesTo L' N) (edgesTo_each HST.out.ok)
              refine ok_same h1.1 HST.out.ok fun x y => ?_
              rw [h1.2, mem_edgesTo' HST.out.ok]
              exact ⟨fun h => h.resolve_left (empty_edge N x y), .inr⟩
            rw [hG] at hT
            have hbk : Blk wr w3.heap.size 34 #[.int .i64 (a : Nat), .int .i64 (b : Nat)] := (hT.fr.block _ HBX6.out.lt (fun e => by have := HBL.out; omega)).trans HBX6.out
            have hx0 : wr.cell? ⟨w3.heap.size, 0, none⟩ = some (.int .i64 (a : Nat)) := hbk.at_ 0 rfl
            have hx1 : wr.cell? ⟨w3.heap.size, 1, none⟩ = some (.int .i64 (b : Nat)) := hbk.at_ 1 rfl
            have HW := Lib.hid (way_any wr w4.heap.size g N b a F L' hT.gr HST.out.ok hnm hb ha (fun e => HNE.out e.symm) HP.out)
            have HBW : Hid (Below w.heap.size w wr) := Lib.hid (HB6.out.trans (hT.fr.low (fun k e => Nat.le_trans HS4.out e.1) HB6.out.size))
            clear HT hT hG hbk
            go_wp2_with fail
            refine Calls.mono HW.out ?_
            rintro e w9 ⟨l, hl, v9, rfl, o9, b9⟩
            obtain ⟨A9, c9, rfl⟩ := own_form o9
            have HF : Hid (CycleOut n L P A more es w (.returned (.slice A9 (zs l).length c9)) w9) := Lib.hid (HFF.out l _ _ (.inr ⟨HNE.out, hl⟩) ⟨_, rfl, own_base o9 HBW.out.size, HBW.out.trans (b9.mono HBW.out.size)⟩)
            clear HW o9 b9 hx0 hx1 hl
            generalize (zs l).length = ll at *
            go_wp2_with fail
            go_ret
            exact HF.out
    · rw [if_neg hc] at hfc
      omega
  · have ek : ((k : Int) != 25) = true := by rw [bne_iff_ne]; omega
    have HF : Hid (CycleOut n L P A more es w (.returned (.slice none 0 0)) w1) := Lib.hid ⟨k, HFC.out, .inl ⟨hk, rfl, HB1.out⟩⟩
    clear hk
    go_wp2_with fail
    go_ret
    exact HF.out
theorem cycle_any (w : World) (base o n : Nat) (F : Nat → Prop) (L : List (List Int)) (P A : List Nat) (h : OAt w base F o n L P A) (hs : OSt n L P A) (hn : n ≤ 10000) (more : Int) (Ae : Option Addr) (q c : Nat) (es : List (Int × Int)) (hq : q = es.length) (hqm : q ≤ 1000000) (hE : EdgesAt w w.heap.size Ae es) (hAe : ∀ b off, Ae = some ⟨b, off, none⟩ → b < w.heap.size) :
    Calls Try.prog 11 #[.pointer (some ⟨o, 0, none⟩), .int .i64 more, .slice Ae q c] w (CycleOut n L P A more es w) :=
  cycle_any' w base o n F L P A h hs hn more Ae q c es hq hqm hE (fun b off e _ => hAe b off e)
end Go.Proofs.Ytelplccbcbegkaa.OrW
