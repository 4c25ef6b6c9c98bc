/-
  The walk of OrderTells.
-/
import Derived.Test.YtpikdjaedbogdaaOrderCalls
namespace Go.Proofs.Ytpikdjaedbogdaa.OrW
set_option linter.unusedVariables false
open Go Go.RowKit Go.Proofs Go.Proofs.Ytpikdjaedbogdaa Go.Proofs.Ytpikdjaedbogdaa.Wd Go.Proofs.Ytpikdjaedbogdaa.GrW Go.Proofs.Ytpikdjaedbogdaa.Ord
open Go.Proofs.Ytpikdjaedbogdaa.Gr (OK putL outs intos Path edgesTo ev)

theorem edges_empty (n k : Nat) : edgesTo (List.replicate (2 * n) []) k = [] := by
  apply List.eq_nil_iff_forall_not_mem.2
  intro x hx
  obtain ⟨u, hu, -, h2⟩ := Gr.mem_edgesTo.1 hx
  have := (OK.empty n).ins (2 * u) x.2 h2
  unfold outs at h2
  have e : (List.replicate (2 * n) ([] : List Int)).getD (2 * u) [] = [] := by
    simp only [List.getD]
    by_cases h : 2 * u < 2 * n
    · simp [h]
    · rw [List.getElem?_eq_none (by simp; omega)]; rfl
  rw [e] at h2
  simp at h2
theorem OUpd.blk {w w' : World} {base o n : Nat} {F : Nat → Prop} {L : List (List Int)} {P V : List Nat} (hU : OUpd base F o n L P V w w') {b : Nat} {t : TypeId} {cs : Array Value} (hb : Blk w b t cs) (hF : ¬ F b) : Blk w' b t cs := by
  obtain ⟨F', h1, h2, h3⟩ := hU
  exact (h2.block b hb.lt hF).trans hb
theorem TO.start {w w1 w2 : World} {o n0 : Nat} (h1 : OnF w w1 (fun k => w.heap.size ≤ k ∧ k < w1.heap.size) o n0 (List.replicate (2 * n0) []) (List.range n0) (List.range n0)) {Am : Option Addr} {cm : Nat} (o2 : w2.ownsRow w1.heap.size 3 1 (.slice Am n0 cm) n0 (iv (zs (List.range n0)))) (B2 : Below w1.heap.size w1 w2) :
    TO w (w2.alloc (.cells #[.int .i64 (n0 : Int), .slice none 0 0, .slice Am n0 cm] 52)) (fun k => w.heap.size ≤ k ∧ k < w1.heap.size) o n0 (List.replicate (2 * n0) []) (List.range n0) (List.range n0) w2.heap.size n0 none 0 0 Am cm (List.replicate (2 * n0) []) (List.range n0) := by
  have hb2 : Below w2.heap.size w2 (w2.alloc (.cells #[.int .i64 (n0 : Int), .slice none 0 0, .slice Am n0 cm] 52)) := (Below.refl _ w2).alloc (Nat.le_refl _) _
  obtain ⟨n1, n2, n3, n4⟩ := Nums.of_own o2
  have hls := Lies.of_own o2
  refine ⟨(h1.below B2).below hb2, Blk.new_ w2 _ _ rfl, Nat.le_trans h1.low.size B2.size, fun e => by have := B2.size; omega, ?_, fun b off e => (by cases e), fun b off e => ?_⟩
  · refine RO.below (w := w2) ⟨?_, ?_, Nat.le_refl _, by unfold maxLen; omega, n1, n3, n4, Lies.none _, hls⟩ hb2
    · rw [edges_empty]; exact fun j hj => by simp at hj
    · rw [edges_empty]; rfl
  · have h2 := hls b off e
    subst e
    have h3 := (own_row o2 (g := b) rfl).1
    exact ⟨fun hf => by have := hf.2; omega, fun e2 => by omega⟩
set_option maxRecDepth 100000 in
set_option maxHeartbeats 16000000 in
theorem tells_main (n0 : Nat) (hn24 : n0 ≤ 24) (A : Option Addr) (c : Nat) (l : List (Bool × Int × Int)) (m : Nat) (hm : m = l.length) (hmc : m ≤ c) (hcm : c ≤ maxLen) (hm50 : m ≤ 50) (w : World) (hI : OCalls w w.heap.size A l) :
    Calls Try.prog 5 #[.int .i64 (n0 : Int), .slice A m c] w fun e w' => e = .returned (.bool true) ∧ Below w.heap.size w w' := by
  have HNW := Lib.hid (newO_any (n0 : Int) w)
  have HI := Lib.hid hI
  have HM := Lib.hid hm
  unfold maxLen at hcm
  clear hI hm
  have u0 : ¬ (24 : Int) < (n0 : Int) := by omega
  have u1 : ¬ (50 : Int) < (m : Int) := by omega
  go_enter Try.func5, Try.ntmps5
  go_wp2_with fail
  refine Calls.mono HNW.out ?_
  intro e w1 h1
  unfold ONewOut at h1
  rw [if_pos (by omega)] at h1
  obtain ⟨o, rfl, O1, B1⟩ := h1
  rw [Int.toNat_natCast] at O1
  have HO1 : Hid (OnF w w1 (fun k => w.heap.size ≤ k ∧ k < w1.heap.size) o n0 (List.replicate (2 * n0) []) (List.range n0) (List.range n0)) := Lib.hid ⟨O1.exist, fun k e => e, B1⟩
  clear HNW O1 B1
  go_wp2_with fail
  refine Calls.mono (newR_any w1 (n0 : Int)) ?_
  intro e w2 h2
  unfold NewR at h2
  rw [if_pos (by omega)] at h2
  obtain ⟨Am, cm, rfl, o2, B2⟩ := h2
  rw [Int.toNat_natCast] at o2 ⊢
  unfold ov
  have HT0 := Lib.hid (And.intro (TO.start HO1.out o2 B2) (OSt.start n0))
  clear HO1 B2 o2
  generalize hbm : w2.heap.size = bm at HT0
  go_wp2_with fail
  clear hbm u0 u1
  go_loopw [67] (fun i wr => ∃ (k n : Nat) (F : Nat → Prop) (L : List (List Int)) (P V : List Nat) (A9 : Option Addr) (q c9 : Nat) (Am9 : Option Addr) (cm9 : Nat), k ≤ m ∧ i = .int .i64 k ∧ n ≤ 24 + 4 * k ∧ q ≤ k ∧ Hid (TO w wr F o n L P V bm n A9 q c9 Am9 cm9 L V ∧ OSt n L P V)) (fun i _ => m - (intOf i).toNat)
  case atStart => exact ⟨0, n0, _, _, _, _, none, 0, 0, Am, cm, Nat.zero_le _, rfl, by omega, Nat.le_refl _, HT0⟩
  case round =>
    obtain ⟨k, n, F, L, P, V, A9, q, c9, Am9, cm9, hk, rfl, hnk, hqk, HS⟩ := hrel
    clear HT0
    by_cases hlt : k < m
    · have hkl : k < l.length := by have := HM.out; omega
      obtain ⟨b, off, rfl, hb, p1, p2, p3⟩ := HI.out k hkl
      have q1 := (HS.out.1.on.low.cell (p := ⟨b, _, none⟩) hb).trans p1
      have q2 := (HS.out.1.on.low.cell (p := ⟨b, _, none⟩) hb).trans p2
      have q3 := (HS.out.1.on.low.cell (p := ⟨b, _, none⟩) hb).trans p3
      generalize l[k] = x at *
      obtain ⟨x0, u, v⟩ := x
      have i1 : (0 : Int) ≤ (k : Int) := by omega
      have i2 : (k : Int) < (m : Int) := by omega
      have HBF : Hid (¬ F wr.heap.size ∧ bm ≠ wr.heap.size) := Lib.hid ⟨fun e => by have := (HS.out.1.on.f1 _ e).2; omega, Nat.ne_of_lt HS.out.1.box.lt⟩
      have HBX := Lib.hid (Blk.new_ wr 57 #[.bool x0, .int .i64 u, .int .i64 v] rfl)
      have HTa := Lib.hid (HS.out.1.below ((Below.refl _ wr).alloc (Nat.le_refl _) (.cells #[.bool x0, .int .i64 u, .int .i64 v] 57)))
      have HST := Lib.hid HS.out.2
      generalize hwc : wr.alloc (.cells #[.bool x0, .int .i64 u, .int .i64 v] 57) = wc at *
      generalize hbc : wr.heap.size = bc at *
      have a0 := HBX.out.at_ 0 rfl
      have a1 := HBX.out.at_ 1 rfl
      have a2 := HBX.out.at_ 2 rfl
      clear p1 p2 p3 hb hkl HS
      by_cases hsk : x0 = true ∧ (4 : Int) < u ∧ u ≤ 10000
      · obtain ⟨rfl, hu4, hu9⟩ := hsk
        have HN := Lib.hid (And.intro HTa.out HST.out)
        clear HTa HBX HST HBF
        go_wp2_with fail
        go_roundw
        case rel => exact ⟨k + 1, n, F, L, P, V, A9, q, c9, Am9, cm9, by omega, by go_num, by omega, by omega, HN⟩
        case measure => simp [intOf]; omega
      · go_upto_if 72 with fail
        clear q1 q2 q3 hwc hbc
        go_cut [5] (fun v5 wx => ∃ (wz : World) (n' : Nat) (F' : Nat → Prop) (L' : List (List Int)) (P' V' : List Nat) (A' : Option Addr) (q' c' : Nat) (Am' : Option Addr) (cm' : Nat), wz = wx ∧ v5 = .pointer (some ⟨o, 0, none⟩) ∧ n' ≤ 24 + 4 * (k + 1) ∧ q' ≤ k + 1 ∧ Hid (TO w wz F' o n' L' P' V' bm n' A' q' c' Am' cm' L' V' ∧ OSt n' L' P' V' ∧ Blk wz bc 57 #[.bool x0, .int .i64 u, .int .i64 v]))
        case first =>
          cases x0 with
          | true =>
            by_cases hu4 : (4 : Int) < u
            · have hu9 : ¬ u ≤ 10000 := fun e => hsk ⟨rfl, hu4, e⟩
              go_wp2_with fail
              refine Calls.mono (growD_o HTa.out.on.ord HST.out (by omega) u) ?_
              rintro e w1 ⟨rfl, U1⟩
              have HB1 := Lib.hid (U1.blk HBX.out HBF.out.1)
              obtain ⟨F1, h1⟩ := HTa.out.upd U1
              have HT1 := Lib.hid h1
              have c0 := h1.box.at_ 0 rfl
              have c1 := h1.box.at_ 1 rfl
              have c2 := h1.box.at_ 2 rfl
              have b1 := HB1.out.at_ 1 rfl
              have HGR := Lib.hid (growD_r (by omega) HST.out h1.ro u)
              unfold ov at HGR
              clear U1 h1 HTa HBX a0 a1 a2
              have hno := oN_le (n := n) (k := u) (by omega)
              have ST' := oSt HST.out u
              generalize oN n u = n' at *
              generalize oL n L u = L' at *
              generalize oP n P u = P' at *
              generalize oP n V u = V' at *
              generalize oC n u = code at *
              go_wp2_with fail
              refine Calls.mono HGR.out ?_
              rintro e w2 ⟨Am', cm', rfl, B2, R2, NM⟩
              clear HGR c0 c1 c2 b1
              have NA : NewB w1 w2 A9 A9 := .refl _ _ _
              have HB3 : Hid (Below w2.heap.size w2 (w2.alloc (.cells #[.int .i64 (n' : Int), .slice A9 q c9, .slice Am' n' cm'] 52))) := Lib.hid ((Below.refl _ w2).alloc (Nat.le_refl _) _)
              have HX3 := Lib.hid (Blk.new_ w2 52 #[.int .i64 (n' : Int), .slice A9 q c9, .slice Am' n' cm'] rfl)
              generalize hw3 : w2.alloc (.cells #[.int .i64 (n' : Int), .slice A9 q c9, .slice Am' n' cm'] 52) = w3 at *
              generalize hb3 : w2.heap.size = b3 at *
              have HB2 := Lib.hid B2
              have hbx : Blk w3 bm 52 #[.int .i64 (n : Int), .slice A9 q c9, .slice Am9 n cm9] := (HT1.out.box.below B2 HT1.out.box.lt).below (by rw [hb3]; exact HB3.out) (HT1.out.box.below B2 HT1.out.box.lt).lt
              have hcx : Blk w3 bc 57 #[.bool true, .int .i64 u, .int .i64 v] := (HB1.out.below B2 HB1.out.lt).below (by rw [hb3]; exact HB3.out) (HB1.out.below B2 HB1.out.lt).lt
              have y0 := HX3.out.at_ 0 rfl
              have y1 := HX3.out.at_ 1 rfl
              have y2 := HX3.out.at_ 2 rfl
              have x0_ := hbx.at_ 0 rfl
              have f0 := hbx.frozen 0
              have k1 := hbx.set_ 0 (.int .i64 (n' : Int))
              have x1 := k1.at_ 1 rfl
              have f1 := k1.frozen 1
              have k2 := k1.set_ 1 (.slice A9 q c9)
              have x2 := k2.at_ 2 rfl
              have f2 := k2.frozen 2
              have HN : Hid (TO w (((w3.setCell ⟨bm, 0, none⟩ (.int .i64 (n' : Int))).setCell ⟨bm, 1, none⟩ (.slice A9 q c9)).setCell ⟨bm, 2, none⟩ (.slice Am' n' cm')) F1 o n' L' P' V' bm n' A9 q c9 Am' cm' L' V' ∧ OSt n' L' P' V' ∧ Blk (((w3.setCell ⟨bm, 0, none⟩ (.int .i64 (n' : Int))).setCell ⟨bm, 1, none⟩ (.slice A9 q c9)).setCell ⟨bm, 2, none⟩ (.slice Am' n' cm')) bc 57 #[.bool true, .int .i64 u, .int .i64 v]) := Lib.hid ⟨HT1.out.keep B2 R2 NA NM (by rw [hb3]; exact HB3.out), ST', ((hcx.farN HBF.out.2.symm _).farN HBF.out.2.symm _).farN HBF.out.2.symm _⟩
              clear k1 k2 hbx hcx HB3 HX3 HB2 B2 R2 NA NM HT1 HB1 HBF
              have e1 : (code == code) = true := by simp
              have e2 : (code != code) = false := by simp
              clear ST'
              go_wp2_with fail
              go_meet
              exact ⟨_, n', F1, L', P', V', A9, q, c9, Am', cm', rfl, rfl, by omega, by omega, HN⟩
            · 
              go_wp2_with fail
              refine Calls.mono (growD_o HTa.out.on.ord HST.out (by omega) u) ?_
              rintro e w1 ⟨rfl, U1⟩
              have HB1 := Lib.hid (U1.blk HBX.out HBF.out.1)
              obtain ⟨F1, h1⟩ := HTa.out.upd U1
              have HT1 := Lib.hid h1
              have c0 := h1.box.at_ 0 rfl
              have c1 := h1.box.at_ 1 rfl
              have c2 := h1.box.at_ 2 rfl
              have b1 := HB1.out.at_ 1 rfl
              have HGR := Lib.hid (growD_r (by omega) HST.out h1.ro u)
              unfold ov at HGR
              clear U1 h1 HTa HBX a0 a1 a2
              have hno := oN_le (n := n) (k := u) (by omega)
              have ST' := oSt HST.out u
              generalize oN n u = n' at *
              generalize oL n L u = L' at *
              generalize oP n P u = P' at *
              generalize oP n V u = V' at *
              generalize oC n u = code at *
              go_wp2_with fail
              refine Calls.mono HGR.out ?_
              rintro e w2 ⟨Am', cm', rfl, B2, R2, NM⟩
              clear HGR c0 c1 c2 b1
              have NA : NewB w1 w2 A9 A9 := .refl _ _ _
              have HB3 : Hid (Below w2.heap.size w2 (w2.alloc (.cells #[.int .i64 (n' : Int), .slice A9 q c9, .slice Am' n' cm'] 52))) := Lib.hid ((Below.refl _ w2).alloc (Nat.le_refl _) _)
              have HX3 := Lib.hid (Blk.new_ w2 52 #[.int .i64 (n' : Int), .slice A9 q c9, .slice Am' n' cm'] rfl)
              generalize hw3 : w2.alloc (.cells #[.int .i64 (n' : Int), .slice A9 q c9, .slice Am' n' cm'] 52) = w3 at *
              generalize hb3 : w2.heap.size = b3 at *
              have HB2 := Lib.hid B2
              have hbx : Blk w3 bm 52 #[.int .i64 (n : Int), .slice A9 q c9, .slice Am9 n cm9] := (HT1.out.box.below B2 HT1.out.box.lt).below (by rw [hb3]; exact HB3.out) (HT1.out.box.below B2 HT1.out.box.lt).lt
              have hcx : Blk w3 bc 57 #[.bool true, .int .i64 u, .int .i64 v] := (HB1.out.below B2 HB1.out.lt).below (by rw [hb3]; exact HB3.out) (HB1.out.below B2 HB1.out.lt).lt
              have y0 := HX3.out.at_ 0 rfl
              have y1 := HX3.out.at_ 1 rfl
              have y2 := HX3.out.at_ 2 rfl
              have x0_ := hbx.at_ 0 rfl
              have f0 := hbx.frozen 0
              have k1 := hbx.set_ 0 (.int .i64 (n' : Int))
              have x1 := k1.at_ 1 rfl
              have f1 := k1.frozen 1
              have k2 := k1.set_ 1 (.slice A9 q c9)
              have x2 := k2.at_ 2 rfl
              have f2 := k2.frozen 2
              have HN : Hid (TO w (((w3.setCell ⟨bm, 0, none⟩ (.int .i64 (n' : Int))).setCell ⟨bm, 1, none⟩ (.slice A9 q c9)).setCell ⟨bm, 2, none⟩ (.slice Am' n' cm')) F1 o n' L' P' V' bm n' A9 q c9 Am' cm' L' V' ∧ OSt n' L' P' V' ∧ Blk (((w3.setCell ⟨bm, 0, none⟩ (.int .i64 (n' : Int))).setCell ⟨bm, 1, none⟩ (.slice A9 q c9)).setCell ⟨bm, 2, none⟩ (.slice Am' n' cm')) bc 57 #[.bool true, .int .i64 u, .int .i64 v]) := Lib.hid ⟨HT1.out.keep B2 R2 NA NM (by rw [hb3]; exact HB3.out), ST', ((hcx.farN HBF.out.2.symm _).farN HBF.out.2.symm _).farN HBF.out.2.symm _⟩
              clear k1 k2 hbx hcx HB3 HX3 HB2 B2 R2 NA NM HT1 HB1 HBF
              have e1 : (code == code) = true := by simp
              have e2 : (code != code) = false := by simp
              clear ST'
              go_wp2_with fail
              go_meet
              exact ⟨_, n', F1, L', P', V', A9, q, c9, Am', cm', rfl, rfl, by omega, by omega, HN⟩
          | false =>
            go_wp2_with fail
            refine Calls.mono (putD_o HTa.out.on.ord HST.out (by omega) u v) ?_
            rintro e w1 ⟨cc, kc, L', P', V', rfl, D1, U1⟩
            have HB1 := Lib.hid (U1.blk HBX.out HBF.out.1)
            obtain ⟨F1, h1⟩ := HTa.out.upd U1
            have HT1 := Lib.hid h1
            have HD := Lib.hid D1
            have ST' := D1.st HST.out
            have c0 := h1.box.at_ 0 rfl
            have c1 := h1.box.at_ 1 rfl
            have c2 := h1.box.at_ 2 rfl
            have b1 := HB1.out.at_ 1 rfl
            have b2 := HB1.out.at_ 2 rfl
            have HPR := Lib.hid (putD_r (by omega) HST.out h1.ro (by omega) u v)
            unfold ov at HPR
            clear U1 h1 D1 HTa HBX a0 a1 a2
            go_wp2_with fail
            refine Calls.mono HPR.out ?_
            rintro e w2 ⟨cc2, kc2, L2, P2, V2, A', q', c', Am', cm', rfl, D2, B2, R2, hq', NA, NM⟩
            obtain ⟨e1, e2, e3, e4, e5⟩ := HD.out.det D2
            subst e1 e2 e3 e4 e5
            clear HPR c0 c1 c2 b1 b2 D2 HD
            have HB3 : Hid (Below w2.heap.size w2 (w2.alloc (.cells #[.int .i64 (n : Int), .slice A' q' c', .slice Am' n cm'] 52))) := Lib.hid ((Below.refl _ w2).alloc (Nat.le_refl _) _)
            have HX3 := Lib.hid (Blk.new_ w2 52 #[.int .i64 (n : Int), .slice A' q' c', .slice Am' n cm'] rfl)
            generalize hw3 : w2.alloc (.cells #[.int .i64 (n : Int), .slice A' q' c', .slice Am' n cm'] 52) = w3 at *
            generalize hb3 : w2.heap.size = b3 at *
            have HB2 := Lib.hid B2
            have hbx : Blk w3 bm 52 #[.int .i64 (n : Int), .slice A9 q c9, .slice Am9 n cm9] := (HT1.out.box.below B2 HT1.out.box.lt).below (by rw [hb3]; exact HB3.out) (HT1.out.box.below B2 HT1.out.box.lt).lt
            have hcx : Blk w3 bc 57 #[.bool false, .int .i64 u, .int .i64 v] := (HB1.out.below B2 HB1.out.lt).below (by rw [hb3]; exact HB3.out) (HB1.out.below B2 HB1.out.lt).lt
            have y0 := HX3.out.at_ 0 rfl
            have y1 := HX3.out.at_ 1 rfl
            have y2 := HX3.out.at_ 2 rfl
            have x0_ := hbx.at_ 0 rfl
            have f0 := hbx.frozen 0
            have k1 := hbx.set_ 0 (.int .i64 (n : Int))
            have x1 := k1.at_ 1 rfl
            have f1 := k1.frozen 1
            have k2 := k1.set_ 1 (.slice A' q' c')
            have x2 := k2.at_ 2 rfl
            have f2 := k2.frozen 2
            have HN : Hid (TO w (((w3.setCell ⟨bm, 0, none⟩ (.int .i64 (n : Int))).setCell ⟨bm, 1, none⟩ (.slice A' q' c')).setCell ⟨bm, 2, none⟩ (.slice Am' n cm')) F1 o n L' P' V' bm n A' q' c' Am' cm' L' V' ∧ OSt n L' P' V' ∧ Blk (((w3.setCell ⟨bm, 0, none⟩ (.int .i64 (n : Int))).setCell ⟨bm, 1, none⟩ (.slice A' q' c')).setCell ⟨bm, 2, none⟩ (.slice Am' n cm')) bc 57 #[.bool false, .int .i64 u, .int .i64 v]) := Lib.hid ⟨HT1.out.keep B2 R2 NA NM (by rw [hb3]; exact HB3.out), ST', ((hcx.farN HBF.out.2.symm _).farN HBF.out.2.symm _).farN HBF.out.2.symm _⟩
            clear k1 k2 hbx hcx HB3 HX3 HB2 B2 R2 NA NM HT1 HB1 HBF
            clear ST'
            go_upto_region 20 with fail
            clear hw3 hb3 y0 y1 y2 x0_ f0 x1 f1 x2 f2
            generalize ((w3.setCell ⟨bm, 0, none⟩ (.int .i64 (n : Int))).setCell ⟨bm, 1, none⟩ (.slice A' q' c')).setCell ⟨bm, 2, none⟩ (.slice Am' n cm') = wz at *
            have HT := Lib.hid HN.out.1
            have HCL : Hid (∀ W, Below wz.heap.size wz W → W.cell? ⟨bm, 0, none⟩ = some (.int .i64 (n : Int)) ∧ W.cell? ⟨bm, 1, none⟩ = some (.slice A' q' c') ∧ W.cell? ⟨bc, 1, none⟩ = some (.int .i64 u) ∧ W.cell? ⟨bc, 2, none⟩ = some (.int .i64 v)) := Lib.hid (fun W hW => ⟨(HT.out.box.below hW HT.out.box.lt).at_ 0 rfl, (HT.out.box.below hW HT.out.box.lt).at_ 1 rfl, (HN.out.2.2.below hW HN.out.2.2.lt).at_ 1 rfl, (HN.out.2.2.below hW HN.out.2.2.lt).at_ 2 rfl⟩)
            have hS : Below wz.heap.size wz wz.drew := (Below.refl _ wz).drew
            refine wp_region_heldG [] (fun _ W => Below wz.heap.size wz W) (by kernel_rfl) ?_
            change wpAnyG _ _ _ _ _ _ 24 _ _ wz.drew
            refine g_take (i := 0) rfl rfl (by kernel_rfl) (by kernel_rfl) (by kernel_rfl) (by kernel_rfl) (by kernel_rfl) (fun _ _ _ h => h) hS (fun L' W' hL hW => by go_simp; rfl) ?_
            refine g_take (i := 1) rfl rfl (by kernel_rfl) (by kernel_rfl) (by kernel_rfl) (by kernel_rfl) (by kernel_rfl) (fun _ _ _ h => h) hS (fun L' W' hL hW => by go_simp; rfl) ?_
            refine g_take (i := 2) rfl rfl (by kernel_rfl) (by kernel_rfl) (by kernel_rfl) (by kernel_rfl) (by kernel_rfl) (fun _ _ _ h => h) hS (fun L' W' hL hW => by go_simp; rfl) ?_
            refine g_take (i := 3) rfl rfl (by kernel_rfl) (by kernel_rfl) (by kernel_rfl) (by kernel_rfl) (by kernel_rfl) (fun _ _ _ h => h) hS (fun L' W' hL hW => by go_simp; rfl) ?_
            refine g_takeG (i := 4) rfl (by simp only [Region.wanted, yielded]; go_simp) (by kernel_rfl) (by kernel_rfl) (by kernel_rfl) (by kernel_rfl) (by kernel_rfl) (fun _ _ _ h => h) hS (fun L' W' hL hW => by go_simp; rfl) ?_
            refine g_takeG (i := 5) rfl (by simp only [Region.wanted, yielded]; go_simp) (by kernel_rfl) (by kernel_rfl) (by kernel_rfl) (by kernel_rfl) (by kernel_rfl) (fun _ _ _ h => h) hS (fun L' W' hL hW => by go_simp; rfl) ?_
            refine g_takeG (i := 6) rfl (by simp only [Region.wanted, yielded]; go_simp) (by kernel_rfl) (by kernel_rfl) (by kernel_rfl) (by kernel_rfl) (by kernel_rfl) (fun _ _ _ h => h) hS (fun L' W' hL hW => by go_simp; rfl) ?_
            refine g_take (i := 7) rfl rfl (by kernel_rfl) (by kernel_rfl) (by kernel_rfl) (by kernel_rfl) (by kernel_rfl) (fun _ _ _ h => h) hS (fun L' W' hL hW => by go_simp; rfl) ?_
            refine g_take (i := 8) rfl rfl (by kernel_rfl) (by kernel_rfl) (by kernel_rfl) (by kernel_rfl) (by kernel_rfl) (fun _ _ _ h => h) hS (fun L' W' hL hW => by go_simp; rfl) ?_
            refine g_takeG (i := 9) rfl (by simp only [Region.wanted, yielded]; go_simp) (by kernel_rfl) (by kernel_rfl) (by kernel_rfl) (by kernel_rfl) (by kernel_rfl) (fun _ _ _ h => h) hS (fun L' W' hL hW => by go_simp; rfl) ?_
            refine g_takeG (i := 10) rfl (by simp only [Region.wanted, yielded]; go_simp) (by kernel_rfl) (by kernel_rfl) (by kernel_rfl) (by kernel_rfl) (by kernel_rfl) (fun _ _ _ h => h) hS (fun L' W' hL hW => by go_simp; rfl) ?_
            refine g_takeG (i := 11) rfl (by simp only [Region.wanted, yielded]; go_simp) (by kernel_rfl) (by kernel_rfl) (by kernel_rfl) (by kernel_rfl) (by kernel_rfl) (fun _ _ _ h => h) hS (fun L' W' hL hW => by obtain ⟨k0, k1, k2, k3⟩ := HCL.out _ hW; go_simp; rfl) ?_
            refine g_takeG (i := 12) rfl (by simp only [Region.wanted, yielded]; go_simp) (by kernel_rfl) (by kernel_rfl) (by kernel_rfl) (by kernel_rfl) (by kernel_rfl) (fun _ _ _ h => h) hS (fun L' W' hL hW => by go_simp; rfl) ?_
            refine g_takeG (i := 13) rfl (by simp only [Region.wanted, yielded]; go_simp) (by kernel_rfl) (by kernel_rfl) (by kernel_rfl) (by kernel_rfl) (by kernel_rfl) (fun _ _ _ h => h) hS (fun L' W' hL hW => by obtain ⟨k0, k1, k2, k3⟩ := HCL.out _ hW; go_simp; rfl) ?_
            refine g_takeG (i := 15) rfl (by simp only [Region.wanted, yielded]; go_simp) (by kernel_rfl) (by kernel_rfl) (by kernel_rfl) (by kernel_rfl) (by kernel_rfl) (fun _ _ _ h => h) hS (fun L' W' hL hW => by go_simp; rfl) ?_
            refine g_takeG (i := 16) rfl (by simp only [Region.wanted, yielded]; go_simp) (by kernel_rfl) (by kernel_rfl) (by kernel_rfl) (by kernel_rfl) (by kernel_rfl) (fun _ _ _ h => h) hS (fun L' W' hL hW => by obtain ⟨k0, k1, k2, k3⟩ := HCL.out _ hW; go_simp; rfl) ?_
            refine g_takeG (i := 17) rfl (by simp only [Region.wanted, yielded]; go_simp) (by kernel_rfl) (by kernel_rfl) (by kernel_rfl) (by kernel_rfl) (by kernel_rfl) (fun _ _ _ h => h) hS (fun L' W' hL hW => by go_simp; rfl) ?_
            refine g_takeG (i := 18) rfl (by simp only [Region.wanted, yielded]; go_simp) (by kernel_rfl) (by kernel_rfl) (by kernel_rfl) (by kernel_rfl) (by kernel_rfl) (fun _ _ _ h => h) hS (fun L' W' hL hW => by obtain ⟨k0, k1, k2, k3⟩ := HCL.out _ hW; go_simp; rfl) ?_
            refine g_takeG (i := 19) rfl (by simp only [Region.wanted, yielded]; go_simp) (by kernel_rfl) (by kernel_rfl) (by kernel_rfl) (by kernel_rfl) (by kernel_rfl) (fun _ _ _ h => h) hS (fun L' W' hL hW => by go_simp; rfl) ?_
            refine g_takeG (i := 20) rfl (by simp only [Region.wanted, yielded]; go_simp) (by kernel_rfl) (by kernel_rfl) (by kernel_rfl) (by kernel_rfl) (by kernel_rfl) (fun _ _ _ h => h) hS (fun L' W' hL hW => by obtain ⟨k0, k1, k2, k3⟩ := HCL.out _ hW; go_simp; rfl) ?_
            refine g_one (i := 14) rfl (by simp only [Region.wanted, yielded]; go_simp) (by kernel_rfl) fun K' hK => ?_
            go_simp
            refine Calls.mono (has_o (HT.out.below hS).on.ord HN.out.2.1.ok (by omega) u v) ?_
            rintro e w5 ⟨rfl, B6⟩
            have hS : Below wz.heap.size wz w5 := hS.trans (B6.mono hS.size)
            refine hK _ _ hS ?_
            clear hK K' B6
            refine g_one (i := 21) rfl (by simp only [Region.wanted, yielded]; go_simp) (by kernel_rfl) fun K' hK => ?_
            go_simp
            refine Calls.mono (refhas_any w5 n A' q' c' (edgesTo L' n) HT.out.ro.q1 HT.out.ro.q2 HT.out.ro.q3 (HT.out.ro.below hS).ed u v) ?_
            rintro e w6 ⟨rfl, B7⟩
            have hS : Below wz.heap.size wz w6 := hS.trans (B7.mono hS.size)
            rw [show decide ((u, v) ∈ edgesTo L' n) = hasE n L' u v by rw [Bool.eq_iff_iff, decide_eq_true_eq]; exact Gr.mem_has HN.out.2.1.ok]
            refine hK _ _ hS ?_
            clear hK K' B7
            generalize hasE n L' u v = bh at *
            refine g_takeG (i := 22) rfl (by simp only [Region.wanted, yielded]; go_simp) (by kernel_rfl) (by kernel_rfl) (by kernel_rfl) (by kernel_rfl) (by kernel_rfl) (fun _ _ _ h => h) hS (fun L' W' hL hW => by go_simp; rfl) ?_
            refine g_take (i := 23) rfl rfl (by kernel_rfl) (by kernel_rfl) (by kernel_rfl) (by kernel_rfl) (by kernel_rfl) (fun _ _ _ h => h) hS (fun L' W' hL hW => by go_simp; rfl) ?_
            refine wpAnyG_done (by kernel_rfl) ?_ _
            have HN2 : Hid (TO w w6 F1 o n L' P' V' bm n A' q' c' Am' cm' L' V' ∧ OSt n L' P' V' ∧ Blk w6 bc 57 #[.bool false, .int .i64 u, .int .i64 v]) := Lib.hid ⟨HT.out.below hS, HN.out.2.1, HN.out.2.2.below hS HN.out.2.2.lt⟩
            clear hS HCL HT HN
            go_simp
            have ebh : (bh != bh) = false := by simp
            go_wp2_with fail
            go_meet
            exact ⟨_, n, F1, L', P', V', A', q', c', Am', cm', rfl, rfl, by omega, by omega, HN2⟩
        case rest =>
          clear HTa HBX HST HBF a0 a1 a2 hsk
          obtain ⟨wz, n', F', L', P', V', A', q', c', Am', cm', hwx, rfl, hn', hq', HX⟩ := hcut
          subst hwx
          have HT := Lib.hid HX.out.1
          have HST := Lib.hid HX.out.2.1
          have HBC := Lib.hid HX.out.2.2
          have HVL : Hid (n' = (zs V').length) := Lib.hid (by rw [zs_length, HST.out.perm.la])
          clear HX
          go_upto_region 22 with fail
          have HCL : Hid (∀ W, Below wz.heap.size wz W → W.cell? ⟨bm, 0, none⟩ = some (.int .i64 (n' : Int)) ∧ W.cell? ⟨bm, 1, none⟩ = some (.slice A' q' c') ∧ W.cell? ⟨bm, 2, none⟩ = some (.slice Am' n' cm') ∧ W.cell? ⟨bc, 1, none⟩ = some (.int .i64 u)) := Lib.hid (fun W hW => ⟨(HT.out.box.below hW HT.out.box.lt).at_ 0 rfl, (HT.out.box.below hW HT.out.box.lt).at_ 1 rfl, (HT.out.box.below hW HT.out.box.lt).at_ 2 rfl, (HBC.out.below hW HBC.out.lt).at_ 1 rfl⟩)
          have hS : Below wz.heap.size wz wz.drew := (Below.refl _ wz).drew
          refine wp_region_heldG [] (fun _ W => Below wz.heap.size wz W) (by kernel_rfl) ?_
          change wpAnyG _ _ _ _ _ _ 23 _ _ wz.drew
          refine g_take (i := 0) rfl rfl (by kernel_rfl) (by kernel_rfl) (by kernel_rfl) (by kernel_rfl) (by kernel_rfl) (fun _ _ _ h => h) hS (fun L' W' hL hW => by go_simp; rfl) ?_
          refine g_take (i := 2) rfl rfl (by kernel_rfl) (by kernel_rfl) (by kernel_rfl) (by kernel_rfl) (by kernel_rfl) (fun _ _ _ h => h) hS (fun L' W' hL hW => by go_simp; rfl) ?_
          refine g_take (i := 3) rfl rfl (by kernel_rfl) (by kernel_rfl) (by kernel_rfl) (by kernel_rfl) (by kernel_rfl) (fun _ _ _ h => h) hS (fun L' W' hL hW => by obtain ⟨k0, k1, k2, k3⟩ := HCL.out _ hW; go_simp; rfl) ?_
          refine g_one (i := 1) rfl rfl (by kernel_rfl) fun K' hK => ?_
          go_simp
          refine Calls.mono (list_o (HT.out.below hS).on.ord HST.out.perm (by omega)) ?_
          rintro e w4 ⟨v4, rfl, o5, B5⟩
          obtain ⟨A5, c5, rfl⟩ := own_form o5
          have hS : Below wz.heap.size wz w4 := hS.trans (B5.mono hS.size)
          have HN5 := Lib.hid (Nums.of_own o5)
          refine hK _ _ hS ?_
          clear hK K' B5 o5
          refine g_one (i := 4) rfl rfl (by kernel_rfl) fun K' hK => ?_
          go_simp
          refine Calls.mono (ints_any A5 Am' c5 cm' (zs V') (zs V') (zs V').length n' rfl HVL.out HN5.out.2.2.1 HN5.out.2.2.2 w4 HN5.out.1 (HT.out.below hS).ro.nums) ?_
          rintro e w5 ⟨rfl, B5⟩
          rw [decide_eq_true (show zs V' = zs V' from rfl)]
          have hS : Below wz.heap.size wz w5 := hS.trans (B5.mono hS.size)
          refine hK _ _ hS ?_
          clear hK K' B5 HN5
          refine g_take (i := 5) rfl rfl (by kernel_rfl) (by kernel_rfl) (by kernel_rfl) (by kernel_rfl) (by kernel_rfl) (fun _ _ _ h => h) hS (fun L' W' hL hW => by go_simp; rfl) ?_
          refine g_take (i := 6) rfl rfl (by kernel_rfl) (by kernel_rfl) (by kernel_rfl) (by kernel_rfl) (by kernel_rfl) (fun _ _ _ h => h) hS (fun L' W' hL hW => by go_simp; rfl) ?_
          refine g_takeG (i := 7) rfl (by simp only [Region.wanted, yielded]; go_simp) (by kernel_rfl) (by kernel_rfl) (by kernel_rfl) (by kernel_rfl) (by kernel_rfl) (fun _ _ _ h => h) hS (fun L' W' hL hW => by go_simp; rfl) ?_
          refine g_takeG (i := 9) rfl (by simp only [Region.wanted, yielded]; go_simp) (by kernel_rfl) (by kernel_rfl) (by kernel_rfl) (by kernel_rfl) (by kernel_rfl) (fun _ _ _ h => h) hS (fun L' W' hL hW => by go_simp; rfl) ?_
          refine g_takeG (i := 10) rfl (by simp only [Region.wanted, yielded]; go_simp) (by kernel_rfl) (by kernel_rfl) (by kernel_rfl) (by kernel_rfl) (by kernel_rfl) (fun _ _ _ h => h) hS (fun L' W' hL hW => by go_simp; rfl) ?_
          refine g_takeG (i := 11) rfl (by simp only [Region.wanted, yielded]; go_simp) (by kernel_rfl) (by kernel_rfl) (by kernel_rfl) (by kernel_rfl) (by kernel_rfl) (fun _ _ _ h => h) hS (fun L' W' hL hW => by obtain ⟨k0, k1, k2, k3⟩ := HCL.out _ hW; go_simp; rfl) ?_
          refine g_one (i := 8) rfl (by simp only [Region.wanted, yielded]; go_simp) (by kernel_rfl) fun K' hK => ?_
          go_simp
          refine Calls.mono (edges_o (HT.out.below hS).on.ord HST.out.ok (by omega)) ?_
          rintro e w6 ⟨Ae, ce, rfl, B6, O6⟩
          have HE6 := Lib.hid (EdgesAt.of_own O6)
          have hS : Below wz.heap.size wz w6 := hS.trans (B6.mono hS.size)
          refine hK _ _ hS ?_
          clear hK K' B6 O6
          refine g_one (i := 12) rfl (by simp only [Region.wanted, yielded]; go_simp) (by kernel_rfl) fun K' hK => ?_
          go_simp
          refine Calls.mono (sameEdges_any Ae A' ce c' (edgesTo L' n') (edgesTo L' n') _ q' rfl HT.out.ro.q1 HE6.out.2.2.1 HE6.out.2.2.2 w6 HE6.out.1 (HT.out.ro.below hS).ed) ?_
          rintro e w7 ⟨rfl, B7⟩
          rw [decide_eq_true (show edgesTo L' n' = edgesTo L' n' from rfl)]
          have hS : Below wz.heap.size wz w7 := hS.trans (B7.mono hS.size)
          refine hK _ _ hS ?_
          clear hK K' B7 HE6
          refine g_takeG (i := 13) rfl (by simp only [Region.wanted, yielded]; go_simp) (by kernel_rfl) (by kernel_rfl) (by kernel_rfl) (by kernel_rfl) (by kernel_rfl) (fun _ _ _ h => h) hS (fun L' W' hL hW => by go_simp; rfl) ?_
          refine g_take (i := 14) rfl rfl (by kernel_rfl) (by kernel_rfl) (by kernel_rfl) (by kernel_rfl) (by kernel_rfl) (fun _ _ _ h => h) hS (fun L' W' hL hW => by go_simp; rfl) ?_
          refine g_take (i := 15) rfl rfl (by kernel_rfl) (by kernel_rfl) (by kernel_rfl) (by kernel_rfl) (by kernel_rfl) (fun _ _ _ h => h) hS (fun L' W' hL hW => by go_simp; rfl) ?_
          refine g_takeG (i := 16) rfl (by simp only [Region.wanted, yielded]; go_simp) (by kernel_rfl) (by kernel_rfl) (by kernel_rfl) (by kernel_rfl) (by kernel_rfl) (fun _ _ _ h => h) hS (fun L' W' hL hW => by go_simp; rfl) ?_
          refine g_takeG (i := 18) rfl (by simp only [Region.wanted, yielded]; go_simp) (by kernel_rfl) (by kernel_rfl) (by kernel_rfl) (by kernel_rfl) (by kernel_rfl) (fun _ _ _ h => h) hS (fun L' W' hL hW => by go_simp; rfl) ?_
          refine g_takeG (i := 19) rfl (by simp only [Region.wanted, yielded]; go_simp) (by kernel_rfl) (by kernel_rfl) (by kernel_rfl) (by kernel_rfl) (by kernel_rfl) (fun _ _ _ h => h) hS (fun L' W' hL hW => by go_simp; rfl) ?_
          refine g_takeG (i := 20) rfl (by simp only [Region.wanted, yielded]; go_simp) (by kernel_rfl) (by kernel_rfl) (by kernel_rfl) (by kernel_rfl) (by kernel_rfl) (fun _ _ _ h => h) hS (fun L' W' hL hW => by obtain ⟨k0, k1, k2, k3⟩ := HCL.out _ hW; go_simp; rfl) ?_
          refine g_one (i := 17) rfl (by simp only [Region.wanted, yielded]; go_simp) (by kernel_rfl) fun K' hK => ?_
          go_simp
          refine Calls.mono (len_o (HT.out.below hS).on.ord) ?_
          rintro e w7 ⟨rfl, hw7⟩
          subst hw7
          refine hK _ _ hS ?_
          clear hK K'
          refine g_takeG (i := 21) rfl (by simp only [Region.wanted, yielded]; go_simp) (by kernel_rfl) (by kernel_rfl) (by kernel_rfl) (by kernel_rfl) (by kernel_rfl) (fun _ _ _ h => h) hS (fun L' W' hL hW => by go_simp; rfl) ?_
          refine g_take (i := 22) rfl rfl (by kernel_rfl) (by kernel_rfl) (by kernel_rfl) (by kernel_rfl) (by kernel_rfl) (fun _ _ _ h => h) hS (fun L' W' hL hW => by go_simp; rfl) ?_
          refine wpAnyG_done (by kernel_rfl) ?_ _
          go_simp
          have HSz := Lib.hid hS
          clear hS
          have HO := Lib.hid (HT.out.below HSz.out)
          by_cases hv : isV n' u = true
          · obtain ⟨a, rfl, ha⟩ := isV_nat hv
            have HPL := Lib.hid (place_o HO.out.on.ord HST.out.perm (a : Int))
            have HAT := Lib.hid (at_o HO.out.on.ord HST.out.perm (a : Int))
            have HPR := Lib.hid (placeR_any w7 n' A' q' c' Am' n' cm' (zs V') HVL.out (by omega) HO.out.ro.nums (a : Int))
            unfold ov at HPR
            rw [if_pos hv, hv, Int.toNat_natCast] at HPL HAT
            rw [idx_perm HST.out.perm ha] at HPR
            obtain ⟨bM, oM, rfl, hbM, hcM⟩ := HO.out.ro.nums.at_ (j := a) (by rw [← HVL.out]; exact ha)
            rw [zs_getD (by rw [HST.out.perm.la]; exact ha)] at hcM
            obtain ⟨k0, k1, k2, k3⟩ := HCL.out _ HSz.out
            generalize P'.getD a 0 = pa at *
            generalize V'.getD a 0 = va at *
            have j1 : (0 : Int) ≤ (pa : Int) := by omega
            have j2 : max (pa : Int) 0 = (pa : Int) := by omega
            have j3 : (0 : Int) ≤ (a : Int) := by omega
            have j4 : (a : Int) < (n' : Int) := by omega
            have HCM := Lib.hid hcM
            have HBM := Lib.hid hbM
            clear hv hcM hbM
            go_wp2_with fail
            refine Calls.mono HPL.out ?_
            rintro e w9 ⟨rfl, rfl⟩
            go_wp2_with fail
            refine Calls.mono HAT.out ?_
            rintro e w9 ⟨rfl, rfl⟩
            go_wp2_with fail
            refine Calls.mono HPR.out ?_
            rintro e w9 ⟨rfl, B9⟩
            have k0' := (B9.cell (p := ⟨bm, 2, none⟩) (GrW.lt_of_cell k2)).trans k2
            have k3' := (B9.cell (p := ⟨bc, 1, none⟩) (GrW.lt_of_cell k3)).trans k3
            have kM := (B9.cell (p := ⟨bM, oM + a, none⟩) HBM.out).trans HCM.out
            have HN := Lib.hid (And.intro (HO.out.below B9) HST.out)
            clear B9 k0 k1 k2 k3 HPL HAT HPR HO HSz HCL HT HBC HCM HBM HST HVL
            go_wp2_with fail
            go_roundw
            case rel => exact ⟨k + 1, n', F', L', P', V', A', q', c', _, cm', by omega, by go_num, by omega, by omega, HN⟩
            case measure => simp [intOf]; omega
          · have hvf := Bool.eq_false_iff.2 hv
            have HPL := Lib.hid (place_o HO.out.on.ord HST.out.perm u)
            have HAT := Lib.hid (at_o HO.out.on.ord HST.out.perm u)
            have HPR := Lib.hid (placeR_any w7 n' A' q' c' Am' n' cm' (zs V') HVL.out (by omega) HO.out.ro.nums u)
            unfold ov at HPR
            rw [if_neg hv, hvf] at HPL HAT
            rw [idx_none HST.out.perm hvf] at HPR
            obtain ⟨k0, k1, k2, k3⟩ := HCL.out _ HSz.out
            have hnv : ¬ ((0 : Int) ≤ u ∧ u < (n' : Int)) := fun e => hv (by unfold isV; rw [Bool.and_eq_true, decide_eq_true_eq, decide_eq_true_eq]; exact e)
            clear hv hvf
            go_wp2_with fail
            refine Calls.mono HPL.out ?_
            rintro e w9 ⟨rfl, rfl⟩
            go_wp2_with fail
            refine Calls.mono HAT.out ?_
            rintro e w9 ⟨rfl, rfl⟩
            go_wp2_with fail
            refine Calls.mono HPR.out ?_
            rintro e w9 ⟨rfl, B9⟩
            have k0' := (B9.cell (p := ⟨bm, 2, none⟩) (GrW.lt_of_cell k2)).trans k2
            have k3' := (B9.cell (p := ⟨bc, 1, none⟩) (GrW.lt_of_cell k3)).trans k3
            have HN := Lib.hid (And.intro (HO.out.below B9) HST.out)
            have j2 : max (-1 : Int) 0 = 0 := by decide
            have j1 : ¬ (0 : Int) ≤ -1 := by decide
            clear B9 k0 k1 k2 k3 HPL HAT HPR HO HSz HCL HT HBC HST HVL
            by_cases j3 : (0 : Int) ≤ u
            · have j4 : ¬ u < (n' : Int) := fun e => hnv ⟨j3, e⟩
              clear hnv
              go_wp2_with fail
              go_roundw
              case rel => exact ⟨k + 1, n', F', L', P', V', A', q', c', _, cm', by omega, by go_num, by omega, by omega, HN⟩
              case measure => simp [intOf]; omega
            · clear hnv
              go_wp2_with fail
              go_roundw
              case rel => exact ⟨k + 1, n', F', L', P', V', A', q', c', _, cm', by omega, by go_num, by omega, by omega, HN⟩
              case measure => simp [intOf]; omega
    · have hkm : k = m := by omega
      subst hkm
      have HL := Lib.hid HS.out.1.on.low
      have i2 : ¬ (k : Int) < (k : Int) := by omega
      clear HS
      go_wp2_with fail
      refine Calls.mono (awakeO_any _) ?_
      rintro e w3 ⟨rfl, B3⟩
      go_wp2_with fail
      go_ret
      exact ⟨rfl, HL.out.trans (B3.mono HL.out.size)⟩
end Go.Proofs.Ytpikdjaedbogdaa.OrW
