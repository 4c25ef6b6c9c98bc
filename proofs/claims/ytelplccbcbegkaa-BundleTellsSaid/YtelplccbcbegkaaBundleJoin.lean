/-
  The walk of joined.
-/
import Derived.Test.YtelplccbcbegkaaBundleOf
namespace Go.Proofs.Ytelplccbcbegkaa.OrW
set_option linter.unusedVariables false
open Go Go.RowKit Go.Proofs Go.Proofs.Ytelplccbcbegkaa Go.Proofs.Ytelplccbcbegkaa.Wd Go.Proofs.Ytelplccbcbegkaa.GrW Go.Proofs.Ytelplccbcbegkaa.Ord
open Go.Proofs.Ytelplccbcbegkaa.Gr (OK putL outs intos Path edgesTo ev)

theorem ev_one (l : List (Int × Int)) : ∀ u ∈ ev l, u.oneCell' = true := fun u hu => by
  unfold Gr.ev at hu
  obtain ⟨x, -, hx⟩ := List.mem_flatMap.1 hu
  simp at hx
  rcases hx with rfl | rfl <;> rfl
theorem putBad {w : World} {base g n : Nat} {F : Nat → Prop} {L : List (List Int)} (h : GAt w base F g n L) (ok : OK n L) (hn : n ≤ 30000) (hb : base ≤ w.heap.size) (u : Int) :
    Calls Try.prog 33 #[.pointer (some ⟨g, 0, none⟩), .int .i64 u, .int .i64 u] w fun e w' => e = .returned (.tuple #[.bool false, .int .i64 2]) ∧ w' = w := by
  refine (put_all w base g n F L h (ok.rises hn) hb u u).mono ?_
  intro e w' h1
  unfold PutOut at h1
  rw [if_neg (by unfold canPut; simp)] at h1
  exact h1
theorem JoinB.of_take {m n : Nat} {L : List (List Int)} {es : List (Int × Int)} (h1 : ∀ x ∈ es, x.1 ≠ x.2) : JoinB m L n es ↔ ¬ Gr.Cyc m (takeL (List.replicate (2 * m) []) (edgesTo L n ++ es)) := by
  have e : takeL (List.replicate (2 * m) []) (edgesTo L n ++ es) = es.foldl (fun G x => putL G x.1.toNat x.2.toNat) ((edgesTo L n).foldl (fun G x => putL G x.1.toNat x.2.toNat) (List.replicate (2 * m) [])) := by
    unfold takeL; rw [List.foldl_append]
  unfold JoinB
  rw [e]
  exact ⟨fun h => h.2, fun h => ⟨h1, h⟩⟩
/-- What joined answers. -/
def JoinOut (m n : Nat) (L : List (List Int)) (es : List (Int × Int)) (w : World) (e : Ending) (w' : World) : Prop := ∃ b : Bool, e = .returned (.bool b) ∧ (b = true ↔ JoinB m L n es) ∧ Below w.heap.size w w'
set_option maxRecDepth 100000 in
set_option maxHeartbeats 8000000 in
theorem joined_any (w : World) (base o n : Nat) (F : Nat → Prop) (L : List (List Int)) (P A : List Nat) (h : OAt w base F o n L P A) (hs : OSt n L P A) (m : Nat) (hnm : n ≤ m) (hm : m ≤ 10000) (Ae : Option Addr) (q c base' : Nat) (es : List (Int × Int)) (hq : q = es.length) (hqm : q ≤ 1000000) (hE : w.ownsRow base' 34 2 (.slice Ae q c) q (ev es)) (hes : ∀ x ∈ es, ∃ a b : Nat, a < m ∧ b < m ∧ x = ((a : Int), (b : Int))) :
    Calls Try.prog 18 #[.pointer (some ⟨o, 0, none⟩), .int .i64 (m : Nat), .slice Ae q c] w (JoinOut m n L es w) := by
  have HO := Lib.hid h
  have HS := Lib.hid hs
  have HQ := Lib.hid hq
  have HE := Lib.hid hE
  have HES := Lib.hid hes
  obtain ⟨i0, hi0, hz0, hz1, hz2⟩ := info_parts infoEdge
  clear h hs hq hE hes
  go_enter Try.func18, Try.ntmps18
  go_wp2_with fail
  refine Calls.mono (GrW.new_any (m : Int) w) ?_
  intro e w1 h1
  unfold NewOut at h1
  rw [if_pos (by omega), Int.toNat_natCast] at h1
  obtain ⟨g, rfl, G1, B1⟩ := h1
  have HG1 := Lib.hid G1.exist
  have HB1 := Lib.hid B1
  clear G1 B1
  go_wp2_with fail
  refine Calls.mono (edges_o (HO.out.below HB1.out) HS.out.ok (by omega)) ?_
  rintro e w2 ⟨A2, c2, rfl, b2, o2⟩
  have HB2 := Lib.hid (HB1.out.trans (b2.mono HB1.out.size))
  have HG2 := Lib.hid (HG1.out.below b2)
  have HR2 := Lib.hid o2
  have HE2 := Lib.hid (own_belowW HE.out HB2.out)
  have HS12 := Lib.hid b2.size
  obtain ⟨me, hme⟩ : ∃ me, me = (edgesTo L n).length := ⟨_, rfl⟩
  have hmb : me ≤ 1000000000000 := by rw [hme]; have := Gr.edgesTo_length (HS.out.ok.rises (by omega)) n; omega
  rw [← hme] at HR2 ⊢
  have HME := Lib.hid hme
  have hw12 : w1.heap.size ≤ w2.heap.size := b2.size
  clear hme b2 o2 HG1
  go_wp2_with (at_builtin; refine wpList_plain rfl fun _ hK => wp_append_own2 _ (.tmp 23) (.tmp 24) 22 rfl w1.heap.size base' 34 i0 _ 2 16 Try.underlying22 hi0 hz0 hz1 hz2 rfl (by omega) _ me (ev (edgesTo L n)) rfl HR2.out Ae q c (ev es) rfl HE2.out (ev_one es) (by unfold maxLen; omega) (by omega) (by omega) ?_)
  intro v3 w3 ho3 hg3 hv3
  refine hK _ _ ?_
  clear hK
  have HE3 : Hid (∃ A3 c3, v3 = .slice A3 (me + q) c3 ∧ EdgesAt w3 w3.heap.size A3 (edgesTo L n ++ es) ∧ (∀ b off, A3 = some ⟨b, off, none⟩ → w1.heap.size ≤ b ∧ b < w3.heap.size)) := Lib.hid (by
    obtain ⟨A3, c3, rfl⟩ := own_form ho3
    rw [← Gr.ev_append] at ho3
    exact ⟨A3, c3, rfl, (EdgesAt.of_own ho3).1, fun b off e => by
      subst e
      obtain ⟨h1, _, h2⟩ := own_row ho3 (g := b) rfl
      exact ⟨h1, h2.lt⟩⟩)
  have HB3 : Hid (Below w.heap.size w w3) := Lib.hid (HB2.out.grown hg3 HB2.out.size (fun j hj => Nat.le_trans HB1.out.size (own_row HR2.out hj).1))
  have HT0 : Hid (∃ F, TakeG w w w1 w3 w3 g m (takeL (List.replicate (2 * m) []) []) F) := Lib.hid (by
    have hf : Fr (fun k => w1.heap.size ≤ k) w2 w3 := Fr.of_grown hg3 (fun k e => (own_row HR2.out e).1)
    refine ⟨_, HG2.out.fr hf (fun k e e2 => by have := e.2; omega), fun k e => .inl e, fun k e => ?_, Fr.refl _ _⟩
    have := e.2; have := hf.size; omega)
  have hw3 : w1.heap.size ≤ w3.heap.size := Nat.le_trans hw12 hg3.size
  obtain ⟨A3, c3, rfl, he3, he3b⟩ := HE3.out
  have HE4 := Lib.hid he3
  have HE4B := Lib.hid he3b
  clear HE3 he3 he3b ho3 hg3 hv3 HR2 HG2 HE2
  generalize hmq : me + q = mq at *
  have HL : Hid (mq = (edgesTo L n ++ es).length) := Lib.hid (by rw [List.length_append, ← HME.out, ← HQ.out]; exact hmq.symm)
  have hmqb : mq ≤ 2000000000000 := by omega
  clear hmq
  have HEA : Hid (∀ x ∈ edgesTo L n ++ es, ∃ a b : Nat, a < m ∧ b < m ∧ x = ((a : Int), (b : Int))) := Lib.hid (fun x hx => by
    rcases List.mem_append.1 hx with hx | hx
    · obtain ⟨a, b, ha, hb, -, e⟩ := edgesTo_each HS.out.ok x hx
      exact ⟨a, b, by omega, by omega, e⟩
    · exact HES.out x hx)
  have HLO : Hid (∀ x ∈ edgesTo L n ++ es, x.1 = x.2 → ¬ JoinB m L n es) := Lib.hid (fun x hx e h => by
    rcases List.mem_append.1 hx with hx | hx
    · obtain ⟨a, b, ha, hb, hne, e2⟩ := edgesTo_each HS.out.ok x hx
      rw [e2] at e
      have e : (a : Int) = (b : Int) := e
      omega
    · exact h.1 x hx e)
  go_wp2_with fail
  generalize hes : edgesTo L n ++ es = E0 at HE4 HL HEA HLO
  have HE0 := Lib.hid hes
  clear hes
  go_loopw [27] (fun ix wr => ∃ j : Nat, j ≤ mq ∧ ix = .int .i64 j ∧ Hid ((∀ x ∈ E0.take j, x.1 ≠ x.2) ∧ ∃ F, TakeG w w w1 w3 wr g m (takeL (List.replicate (2 * m) []) (E0.take j)) F)) (fun ix _ => mq - (intOf ix).toNat)
  case atStart => exact ⟨0, Nat.zero_le _, rfl, Lib.hid ⟨by simp, HT0.out⟩⟩
  case round =>
    obtain ⟨j, hj, rfl, HT⟩ := hrel
    clear HT0
    obtain ⟨hnl, F, hT⟩ := HT.out
    by_cases hlt : j < mq
    · have hjl : j < E0.length := by have := HL.out; omega
      obtain ⟨b1, off1, rfl, hb1, p1, p2⟩ := HE4.out j hjl
      obtain ⟨x, y, hx, hy, hex⟩ := HEA.out _ (List.getElem_mem hjl)
      have hlo := HLO.out _ (List.getElem_mem hjl)
      rw [hex] at p1 p2 hlo
      have hbe := HE4B.out _ _ rfl
      have hblk : wr.heap[b1]? = w3.heap[b1]? := hT.fr.block b1 hbe.2 (fun e => by omega)
      have q1 := (World.cell?_of_block (w := w3) (a := ⟨b1, off1 + j * 2, none⟩) hblk).trans p1
      have q2 := (World.cell?_of_block (w := w3) (a := ⟨b1, off1 + j * 2 + 1, none⟩) hblk).trans p2
      have hok : OK m (takeL (List.replicate (2 * m) []) (E0.take j)) := (takeL_ok (OK.empty m) (E0.take j) (fun z hz => by
        obtain ⟨a, b, ha, hb, e⟩ := HEA.out z (List.mem_of_mem_take hz)
        have := hnl z hz
        rw [e] at this
        exact ⟨a, b, ha, hb, fun e2 => this (by rw [e2]), e⟩)).1
      have HOK := Lib.hid hok
      have HTT := Lib.hid (hT.below ((Below.refl _ wr).alloc (Nat.le_refl _) (.cells #[.int .i64 (x : Nat), .int .i64 (y : Nat)] 34)))
      have HBE := Lib.hid (Blk.new_ wr 34 #[.int .i64 (x : Nat), .int .i64 (y : Nat)] rfl)
      have hs4 : w.heap.size ≤ wr.heap.size := by have := hT.fr.size; have := HB3.out.size; omega
      have HLW : Hid (Below w.heap.size w wr) := Lib.hid (HB3.out.trans (hT.fr.low (fun k e => e.1) HB3.out.size))
      have i3 : (0 : Int) ≤ (j : Int) := by omega
      have i4 : (j : Int) < (mq : Int) := by omega
      have HLT := Lib.hid hlt
      have HHL := Lib.hid hlo
      by_cases hxy : x = y
      · have HF : Hid (∀ w', Below wr.heap.size wr w' → JoinOut m n L es w (.returned (.bool false)) w') := Lib.hid (fun w' hb => ⟨false, rfl, ⟨fun e => Bool.noConfusion e, fun e => absurd e (HHL.out (by rw [hxy]))⟩, HLW.out.trans (hb.mono HLW.out.size)⟩)
        subst hxy
        clear HT hT p1 p2 hbe hblk hok hex hb1 hjl hnl hlo HHL
        generalize takeL (List.replicate (2 * m) []) (E0.take j) = Gj at *
        go_wp2_with fail
        refine Calls.mono (putBad HTT.out.gr HOK.out (by omega) (by simp; omega) (x : Int)) ?_
        rintro e w8 ⟨rfl, hw8⟩
        have HF2 := Lib.hid (HF.out w8 (by rw [hw8]; exact (Below.refl _ wr).alloc (Nat.le_refl _) _))
        clear HF hw8 HTT HBE q1 q2
        go_wp2_with fail
        go_ret
        exact HF2.out
      · have hnx : takeL (List.replicate (2 * m) []) (E0.take (j + 1)) = putL (takeL (List.replicate (2 * m) []) (E0.take j)) x y ∧ ∀ z ∈ E0.take (j + 1), z.1 ≠ z.2 := by
          rw [List.take_succ_eq_append_getElem hjl, takeL_snoc, hex, Int.toNat_natCast, Int.toNat_natCast]
          refine ⟨rfl, fun z hz => ?_⟩
          rcases List.mem_append.1 hz with hz | hz
          · exact hnl z hz
          · have e : z = ((x : Int), (y : Int)) := List.mem_singleton.1 hz
            rw [e]
            intro e2
            have e2 : (x : Int) = (y : Int) := e2
            omega
        have HNX := Lib.hid hnx
        have HXY := Lib.hid hxy
        clear HT hT p1 p2 hbe hblk hok hex hb1 hjl hnl hlo HHL hnx hxy
        generalize takeL (List.replicate (2 * m) []) (E0.take j) = Gj at *
        go_wp2_with fail
        refine Calls.mono (putG_any HTT.out.gr HOK.out (by omega) (by simp; omega) x y hx hy HXY.out) ?_
        rintro e w8 ⟨bp, rfl, hU⟩
        have HN : Hid ((∀ x ∈ E0.take (j + 1), x.1 ≠ x.2) ∧ ∃ F, TakeG w w w1 w3 w8 g m (takeL (List.replicate (2 * m) []) (E0.take (j + 1))) F) := Lib.hid (by refine ⟨HNX.out.2, ?_⟩; rw [HNX.out.1]; exact HTT.out.upd hU)
        clear hU HTT HBE q1 q2 HNX
        go_wp2_with fail
        go_roundw
        case rel => exact ⟨j + 1, by have := HLT.out; omega, by go_num, HN⟩
        case measure => simp [intOf]; have := HLT.out; omega
    · obtain rfl : j = mq := by omega
      rw [List.take_of_length_le (by have := HL.out; omega)] at hnl hT
      have hok : OK m (takeL (List.replicate (2 * m) []) E0) := (takeL_ok (OK.empty m) E0 (fun z hz => by
        obtain ⟨a, b, ha, hb, e⟩ := HEA.out z hz
        have := hnl z hz
        rw [e] at this
        exact ⟨a, b, ha, hb, fun e2 => this (by rw [e2]), e⟩)).1
      have hJ : JoinB m L n es ↔ ¬ Gr.Cyc m (takeL (List.replicate (2 * m) []) E0) := by
        rw [← HE0.out]
        exact JoinB.of_take fun x hx => hnl x (by rw [← HE0.out]; exact List.mem_append_right _ hx)
      obtain ⟨bs, hbs⟩ : ∃ bs : Bool, bs = true ↔ ¬ Gr.Cyc m (takeL (List.replicate (2 * m) []) E0) := by
        by_cases hc : Gr.Cyc m (takeL (List.replicate (2 * m) []) E0)
        · exact ⟨false, ⟨fun e => Bool.noConfusion e, fun e => absurd hc e⟩⟩
        · exact ⟨true, ⟨fun _ => hc, fun _ => rfl⟩⟩
      have HSO := Lib.hid (sort_b hT.gr hok (by omega) bs hbs)
      have HF : Hid (∀ w', Below wr.heap.size wr w' → JoinOut m n L es w (.returned (.bool bs)) w') := Lib.hid (fun w' hb => ⟨bs, rfl, hbs.trans hJ.symm, (HB3.out.trans (hT.fr.low (fun k e => e.1) HB3.out.size)).trans (hb.mono (by have := hT.fr.size; have := HB3.out.size; omega))⟩)
      clear HT hT hok hJ hbs hnl
      go_wp2_with fail
      refine Calls.mono HSO.out ?_
      rintro e w9 ⟨A9, n9, c9, rfl, b9⟩
      have HF2 := Lib.hid (HF.out w9 b9)
      clear HF HSO b9
      go_wp2_with fail
      go_ret
      exact HF2.out
end Go.Proofs.Ytelplccbcbegkaa.OrW
