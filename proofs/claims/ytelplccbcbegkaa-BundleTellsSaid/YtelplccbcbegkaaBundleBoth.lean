/-
  What a bundle tells, of the program and of the document; the sum of few.
-/
import Derived.Test.YtelplccbcbegkaaBundleParts
namespace Go.Proofs.Ytelplccbcbegkaa.OrW
set_option linter.unusedVariables false
open Go Go.RowKit Go.Proofs Go.Proofs.Ytelplccbcbegkaa Go.Proofs.Ytelplccbcbegkaa.Wd Go.Proofs.Ytelplccbcbegkaa.GrW Go.Proofs.Ytelplccbcbegkaa.Ord
open Go.Proofs.Ytelplccbcbegkaa.Gr (OK putL outs intos Path edgesTo ev)

theorem edges_empty (n k : Nat) : edgesTo (List.replicate (2 * n) []) k = [] := by
  apply List.eq_nil_iff_forall_not_mem.2
  intro x hx
  obtain ⟨u, hu, -, h2⟩ := Gr.mem_edgesTo.1 hx
  have := (OK.empty n).ins (2 * u) x.2 h2
  unfold outs at h2
  have e : (List.replicate (2 * n) ([] : List Int)).getD (2 * u) [] = [] := by
    simp only [List.getD]
    by_cases h : 2 * u < 2 * n
    · simp [h]
    · rw [List.getElem?_eq_none (by simp; omega)]; rfl
  rw [e] at h2
  simp at h2
theorem OUpd.blk {w w' : World} {base o n : Nat} {F : Nat → Prop} {L : List (List Int)} {P V : List Nat} (hU : OUpd base F o n L P V w w') {b : Nat} {t : TypeId} {cs : Array Value} (hb : Blk w b t cs) (hF : ¬ F b) : Blk w' b t cs := by
  obtain ⟨F', h1, h2, h3⟩ := hU
  exact (h2.block b hb.lt hF).trans hb
theorem TO.start {w w1 w2 : World} {o n0 : Nat} (h1 : OnF w w1 (fun k => w.heap.size ≤ k ∧ k < w1.heap.size) o n0 (List.replicate (2 * n0) []) (List.range n0) (List.range n0)) {Am : Option Addr} {cm : Nat} (o2 : w2.ownsRow w1.heap.size 3 1 (.slice Am n0 cm) n0 (iv (zs (List.range n0)))) (B2 : Below w1.heap.size w1 w2) :
    TO w (w2.alloc (.cells #[.int .i64 (n0 : Int), .slice none 0 0, .slice Am n0 cm] 55)) (fun k => w.heap.size ≤ k ∧ k < w1.heap.size) o n0 (List.replicate (2 * n0) []) (List.range n0) (List.range n0) w2.heap.size n0 none 0 0 Am cm (List.replicate (2 * n0) []) (List.range n0) := by
  have hb2 : Below w2.heap.size w2 (w2.alloc (.cells #[.int .i64 (n0 : Int), .slice none 0 0, .slice Am n0 cm] 55)) := (Below.refl _ w2).alloc (Nat.le_refl _) _
  obtain ⟨n1, n2, n3, n4⟩ := Nums.of_own o2
  have hls := Lies.of_own o2
  refine ⟨(h1.below B2).below hb2, Blk.new_ w2 _ _ rfl, Nat.le_trans h1.low.size B2.size, fun e => by have := B2.size; omega, ?_, fun b off e => (by cases e), fun b off e => ?_⟩
  · refine RO.below (w := w2) ⟨?_, ?_, Nat.le_refl _, by unfold maxLen; omega, n1, n3, n4, Lies.none _, hls⟩ hb2
    · rw [edges_empty]; exact fun j hj => by simp at hj
    · rw [edges_empty]; rfl
  · have h2 := hls b off e
    subst e
    have h3 := (own_row o2 (g := b) rfl).1
    exact ⟨fun hf => by have := hf.2; omega, fun e2 => by omega⟩
theorem TO.upd2 {w wr w' : World} {F : Nat → Prop} {o n : Nat} {L : List (List Int)} {P V : List Nat} {bm n2 : Nat} {A : Option Addr} {q c : Nat} {Am : Option Addr} {cm : Nat} {L2 : List (List Int)} {V2 : List Nat} {n' : Nat} {L' : List (List Int)} {P' V' : List Nat} (h : TO w wr F o n L P V bm n2 A q c Am cm L2 V2) (hU : OUpd w.heap.size F o n' L' P' V' wr w') : ∃ F', TO w w' F' o n' L' P' V' bm n2 A q c Am cm L2 V2 ∧ Fr F wr w' ∧ ∀ k, F' k → F k ∨ wr.heap.size ≤ k := by
  obtain ⟨F', h1, h2, h3⟩ := h.on.upd hU
  refine ⟨F', ⟨h1, (h2.block _ h.box.lt h.boxF).trans h.box, h.boxL, fun e => (h3 _ e).elim h.boxF (fun e => by have := h.box.lt; omega), { h.ro with ed := ?_, nums := ?_, la := ?_, lm := ?_ }, fun b off e => ?_, fun b off e => ?_⟩, h2, h3⟩
  · exact edges_at h.ro.ed (fun b off o e hb => cell_same (h2.block b hb (h.edF b off e).1) o) h2.size
  · exact nums_at h.ro.nums (fun b off o e hb => cell_same (h2.block b hb (h.nmF b off e).1) o) h2.size
  · exact fun b off e => Nat.lt_of_lt_of_le (h.ro.la b off e) h2.size
  · exact fun b off e => Nat.lt_of_lt_of_le (h.ro.lm b off e) h2.size
  · obtain ⟨e1, e2⟩ := h.edF b off e
    exact ⟨fun e3 => (h3 _ e3).elim e1 (fun e3 => by have := h.ro.la b off e; omega), e2⟩
  · obtain ⟨e1, e2⟩ := h.nmF b off e
    exact ⟨fun e3 => (h3 _ e3).elim e1 (fun e3 => by have := h.ro.lm b off e; omega), e2⟩
/-- A row of numbers that is none of the order's, nor in the box. -/
structure SN (wr : World) (F : Nat → Prop) (bm : Nat) (A : Option Addr) (l : List Int) : Prop where
  nums : Nums wr wr.heap.size A l
  far : ∀ b off, A = some ⟨b, off, none⟩ → ¬ F b ∧ b ≠ bm ∧ b < wr.heap.size
section
variable {wr w' : World} {F : Nat → Prop} {bm : Nat} {A : Option Addr} {l : List Int}
theorem SN.below (h : SN wr F bm A l) (hb : Below wr.heap.size wr w') : SN w' F bm A l := ⟨h.nums.grow hb, fun b off e => ⟨(h.far b off e).1, (h.far b off e).2.1, Nat.lt_of_lt_of_le (h.far b off e).2.2 hb.size⟩⟩
theorem SN.upd {F' : Nat → Prop} (h : SN wr F bm A l) (hf : Fr F wr w') (hF : ∀ k, F' k → F k ∨ wr.heap.size ≤ k) : SN w' F' bm A l :=
  ⟨nums_at h.nums (fun b off o e hb => cell_same (hf.block b hb (h.far b off e).1) o) hf.size, fun b off e => ⟨fun e3 => (hF _ e3).elim (h.far b off e).1 (fun e3 => by have := (h.far b off e).2.2; omega), (h.far b off e).2.1, Nat.lt_of_lt_of_le (h.far b off e).2.2 hf.size⟩⟩
theorem SN.set_ (h : SN wr F bm A l) (i : Nat) (v : Value) : SN (wr.setCell ⟨bm, i, none⟩ v) F bm A l :=
  ⟨nums_at h.nums (fun b off o e hb => cell_same (heap_setCell_other wr ⟨bm, i, none⟩ b v (h.far b off e).2.1) o) (by simp), fun b off e => by simpa using h.far b off e⟩
end
/-- What a bundle tells and leaves. -/
def BD (n : Nat) (L : List (List Int)) (P V : List Nat) (more : Int) (es : List (Int × Int)) (chg k N : Nat) (L' : List (List Int)) (P' V' : List Nat) : Prop :=
  FitsC n L P V more es k ∧ ((k ≠ 0 ∧ chg = 0 ∧ N = n ∧ L' = L ∧ P' = P ∧ V' = V) ∨ (k = 0 ∧ canGrow n more = true ∧ N = n + more.toNat ∧ Ran N (growL L more.toNat) (gro P n more.toNat) (gro V n more.toNat) es L' P' V' ∧ chg = rch P P' n))
section
variable {n : Nat} {L L1 L2 : List (List Int)} {P V P1 V1 P2 V2 : List Nat} {more : Int} {es : List (Int × Int)} {c1 k1 N1 c2 k2 N2 : Nat}
theorem BD.det (h : BD n L P V more es c1 k1 N1 L1 P1 V1) (g : BD n L P V more es c2 k2 N2 L2 P2 V2) : c1 = c2 ∧ k1 = k2 ∧ N1 = N2 ∧ L1 = L2 ∧ P1 = P2 ∧ V1 = V2 := by
  have hk := h.1.det g.1
  subst hk
  rcases h.2 with ⟨h0, rfl, rfl, rfl, rfl, rfl⟩ | ⟨h0, hc, rfl, hr, rfl⟩
  · rcases g.2 with ⟨-, rfl, rfl, rfl, rfl, rfl⟩ | ⟨g0, -⟩
    · exact ⟨rfl, rfl, rfl, rfl, rfl, rfl⟩
    · exact absurd g0 h0
  · rcases g.2 with ⟨g0, -⟩ | ⟨-, -, rfl, gr, rfl⟩
    · exact absurd h0 g0
    · obtain ⟨rfl, rfl, rfl⟩ := hr.detP gr
      exact ⟨rfl, rfl, rfl, rfl, rfl, rfl⟩
theorem BD.st (h : BD n L P V more es c1 k1 N1 L1 P1 V1) (hs : OSt n L P V) : OSt N1 L1 P1 V1 := by
  rcases h.2 with ⟨-, -, rfl, rfl, rfl, rfl⟩ | ⟨-, -, rfl, hr, -⟩
  · exact hs
  · exact hr.st (hs.gro _)
theorem BD.small (h : BD n L P V more es c1 k1 N1 L1 P1 V1) (hm : more ≤ 4 ∨ 10000 < more) : N1 ≤ n + 4 := by
  rcases h.2 with ⟨-, -, rfl, -⟩ | ⟨-, hc, rfl, -⟩
  · omega
  · unfold canGrow at hc
    rw [Bool.and_eq_true, decide_eq_true_eq, decide_eq_true_eq] at hc
    omega
end
theorem bput_d (w : World) (base o n : Nat) (F : Nat → Prop) (L : List (List Int)) (P V : List Nat) (h : OAt w base F o n L P V) (hs : OSt n L P V) (hn : n ≤ 10000) (more : Int) (Ae : Option Addr) (q c : Nat) (es : List (Int × Int)) (hq : q = es.length) (hqm : q ≤ 1000000) (hE : EdgesAt w w.heap.size Ae es) (hA : ∀ b off, Ae = some ⟨b, off, none⟩ → es ≠ [] → ¬ F b ∧ b < w.heap.size) :
    Calls Try.prog 19 #[.pointer (some ⟨o, 0, none⟩), .int .i64 more, .slice Ae q c] w fun e w' => ∃ (chg k N : Nat) (L' : List (List Int)) (P' V' : List Nat), e = .returned (.tuple #[.int .i64 (chg : Nat), .int .i64 (k : Nat)]) ∧ BD n L P V more es chg k N L' P' V' ∧ OUpd base F o N L' P' V' w w' := by
  refine (bput_any' w base o n F L P V h hs hn more hs.hok Ae q c es hq hqm hE (fun b off e hne => (hA b off e hne).2) (fun b off e hne => (hA b off e hne).1)).mono ?_
  rintro e w' ⟨k, hF, h1⟩
  rcases h1 with ⟨h0, he, hB⟩ | ⟨h0, hc, L', P', V', hr, he, hU⟩
  · exact ⟨0, k, n, L, P, V, he, ⟨hF, .inl ⟨h0, rfl, rfl, rfl, rfl, rfl⟩⟩, OUpd.below h hB⟩
  · subst h0
    rw [bch_rch hs.perm] at he
    exact ⟨rch P P' n, 0, n + more.toNat, L', P', V', he, ⟨hF, .inr ⟨rfl, hc, rfl, hr, rfl⟩⟩, hU⟩
theorem rput_d (w : World) (n : Nat) (hn : n ≤ 5000) (L : List (List Int)) (P V : List Nat) (hst : OSt n L P V) (A : Option Addr) (q c : Nat) (Am : Option Addr) (cm : Nat) (hR : RO w n A q c Am cm L V) (hbig : q ≤ 50000) (more : Int) (hm : more ≤ 5000 ∨ 10000 < more) (Ae : Option Addr) (m ce : Nat) (es : List (Int × Int)) (hq : m = es.length) (hqm : m ≤ 50000) (hE : EdgesAt w w.heap.size Ae es) :
    Calls Try.prog 27 #[ov n A q c Am n cm, .int .i64 more, .slice Ae m ce] w fun e w' => ∃ (chg k N i n3 q3 c3 cm3 q' c' cm' : Nat) (L' : List (List Int)) (P' V' : List Nat) (A3 Am3 A' Am' : Option Addr), e = .returned (.tuple #[ov N A' q' c' Am' N cm', .int .i64 (chg : Nat), ov n3 A3 q3 c3 Am3 n3 cm3, .int .i64 (i : Nat), .int .i64 (k : Nat)]) ∧ BD n L P V more es chg k N L' P' V' ∧ Below w.heap.size w w' ∧ RO w' N A' q' c' Am' cm' L' V' ∧ q' ≤ q + es.length ∧ NewB w w' A A' ∧ NewB w w' Am Am' := by
  refine (rput_any w n hn L P V hst A q c Am cm hR hbig more hm Ae m ce es hq hqm hE).mono ?_
  rintro e w' ⟨hB, h⟩
  rcases h with ⟨hk, he⟩ | ⟨hk, N, i, k, L', P', V', A', q', c', Am', cm', hN, hW, hRO, hq', hnA, hnM, he⟩
  · refine ⟨0, 2, n, 0, n, q, c, cm, q, c, cm, L, P, V, A, Am, A, Am, he, ⟨?_, .inl ⟨by omega, rfl, rfl, rfl, rfl, rfl⟩⟩, hB, hR.below hB, by omega, .refl _ _ _, .refl _ _ _⟩
    unfold FitsC
    rw [if_neg (by rw [hk]; simp)]
  · have hF : FitsC n L P V more es k := by
      unfold FitsC
      rw [if_pos hk]
      have h := hW
      rw [hN] at h
      exact ⟨i, L', P', V', h⟩
    rcases he with ⟨h0, he⟩ | ⟨h0, he⟩
    · exact ⟨0, k, n, i, N, q', c', cm', q, c, cm, L, P, V, A', Am', A, Am, he, ⟨hF, .inl ⟨h0, rfl, rfl, rfl, rfl, rfl⟩⟩, hB, hR.below hB, by omega, .refl _ _ _, .refl _ _ _⟩
    · subst h0
      have hr : Ran N (growL L more.toNat) (gro P n more.toNat) (gro V n more.toNat) es L' P' V' := by
        rcases hW with ⟨-, -, hr⟩ | ⟨h1, -⟩
        · exact hr
        · exact absurd rfl h1
      exact ⟨rch P P' n, 0, N, es.length, N, q', c', cm', q', c', cm', L', P', V', A', Am', A', Am', he, ⟨hF, .inr ⟨rfl, hk, hN, hr, rfl⟩⟩, hB, hRO, hq', hnA, hnM⟩
/-- The cycle that is told. -/
def CycT (n : Nat) (L : List (List Int)) (P V : List Nat) (more : Int) (es : List (Int × Int)) (lc : List Nat) : Prop :=
  ∃ k : Nat, FitsC n L P V more es k ∧ ((k ≠ 25 ∧ lc = []) ∨ (k = 25 ∧ ∃ (i : Nat) (hi : i < es.length) (L' : List (List Int)) (P' V' : List Nat), Went (n + more.toNat) (growL L more.toNat) (gro P n more.toNat) (gro V n more.toNat) es i 25 L' P' V' ∧ CycL L' es[i] lc))
theorem CycT.det {n : Nat} {L : List (List Int)} {P V : List Nat} {more : Int} {es : List (Int × Int)} {l m : List Nat} (h : CycT n L P V more es l) (g : CycT n L P V more es m) : l = m := by
  obtain ⟨k, hF, h⟩ := h
  obtain ⟨k2, gF, g⟩ := g
  have hk := hF.det gF
  subst hk
  rcases h with ⟨h0, rfl⟩ | ⟨h0, i, hi, L1, P1, V1, hW, hC⟩
  · rcases g with ⟨-, rfl⟩ | ⟨g0, -⟩
    · rfl
    · exact absurd g0 h0
  · rcases g with ⟨g0, -⟩ | ⟨-, i2, hi2, L2, P2, V2, gW, gC⟩
    · exact absurd h0 g0
    · obtain ⟨rfl, -, rfl⟩ := hW.det gW
      exact cycL_det hC gC
theorem cycT_of {n : Nat} {L : List (List Int)} {P V : List Nat} {more : Int} {es : List (Int × Int)} {w w' : World} {e : Ending} (h : CycleOut n L P V more es w e w') : ∃ (lc : List Nat) (Ac : Option Addr) (cc : Nat), e = .returned (.slice Ac lc.length cc) ∧ CycT n L P V more es lc ∧ Below w.heap.size w w' ∧ Nums w' w'.heap.size Ac (zs lc) ∧ lc.length ≤ cc ∧ cc ≤ maxLen ∧ ∀ b off, Ac = some ⟨b, off, none⟩ → w.heap.size ≤ b ∧ b < w'.heap.size := by
  obtain ⟨k, hF, h⟩ := h
  rcases h with ⟨h0, rfl, hB⟩ | ⟨h0, hc, i, hi, L', P', V', l, hW, hC, hO⟩
  · exact ⟨[], none, 0, rfl, ⟨k, hF, .inl ⟨h0, rfl⟩⟩, hB, fun j hj => by simp [zs, iv] at hj, Nat.le_refl _, by simp [maxLen], fun b off e => by cases e⟩
  · obtain ⟨v', rfl, ho, hB⟩ := hO
    obtain ⟨Ac, cc, rfl⟩ := own_form ho
    obtain ⟨n1, n2, n3, n4⟩ := Nums.of_own ho
    have hl := Lies.of_own ho
    rw [zs_length] at n3 ⊢
    refine ⟨l, Ac, cc, rfl, ⟨k, hF, .inr ⟨h0, i, hi, L', P', V', hW, hC⟩⟩, hB, n1, n3, n4, fun b off e => ⟨?_, hl b off e⟩⟩
    subst e
    exact (own_row ho (g := b) rfl).1
/-- How many edges the first parts have. -/
def tot (l : List (Int × List (Int × Int))) (k : Nat) : Nat := ((l.take k).map fun p => p.2.length).sum
theorem tot_succ {l : List (Int × List (Int × Int))} {k : Nat} (hk : k < l.length) : tot l (k + 1) = tot l k + (l[k]).2.length := by
  unfold tot
  rw [List.take_succ_eq_append_getElem hk, List.map_append, List.sum_append]
  simp
theorem mem_sum : ∀ {l : List (Int × List (Int × Int))} {p : Int × List (Int × Int)}, p ∈ l → p.2.length ≤ (l.map fun p => p.2.length).sum
  | x :: l, p, h => by
    rw [List.map_cons, List.sum_cons]
    rcases List.mem_cons.1 h with rfl | h
    · omega
    · have := mem_sum h; omega
def FewOut (w : World) (m : Nat) (l : List (Int × List (Int × Int))) (e : Ending) (w' : World) : Prop := ∃ b : Bool, e = .returned (.bool b) ∧ (b = true → m ≤ 12 ∧ ∀ p ∈ l, p.2.length ≤ 60) ∧ Below w.heap.size w w'
set_option maxRecDepth 100000 in
set_option maxHeartbeats 8000000 in
theorem few_any (w : World) (A : Option Addr) (c : Nat) (l : List (Int × List (Int × Int))) (m : Nat) (hm : m = l.length) (hmc : m ≤ c) (hcm : c ≤ maxLen) (hfit : ∀ p ∈ l, p.2.length ≤ 140737488351232) (hI : PartsAt w w.heap.size A l) :
    Calls Try.prog 23 #[.slice A m c] w (FewOut w m l) := by
  have HM := Lib.hid hm
  have HI := Lib.hid hI
  have HFI := Lib.hid hfit
  unfold maxLen at hcm
  clear hm hI hfit
  by_cases h12 : m ≤ 12
  · have HTS : Hid (∀ k, k ≤ m → tot l k ≤ k * 140737488351232) := Lib.hid (fun k hk => by
      induction k with
      | zero => simp [tot]
      | succ k ih =>
        have hkl : k < l.length := by have := HM.out; omega
        rw [tot_succ hkl]
        have h1 := ih (by omega)
        have h2 := HFI.out _ (List.getElem_mem hkl)
        omega)
    go_enter Try.func23, Try.ntmps23
    go_wp2_with fail
    go_loopw [3, 8] (fun vt iv_ wr => ∃ k t : Nat, k ≤ m ∧ iv_ = .int .i64 k ∧ vt = .int .i64 (t : Nat) ∧ t ≤ k * 140737488351232 ∧ Hid (t = tot l k ∧ Below w.heap.size w wr)) (fun _ iv_ _ => m - (intOf iv_).toNat)
    case atStart => exact ⟨0, 0, Nat.zero_le _, rfl, rfl, Nat.zero_le _, Lib.hid ⟨by simp [tot], Below.refl _ _⟩⟩
    case round =>
      obtain ⟨k, t, hk, rfl, rfl, htk, HK⟩ := hrel
      by_cases hlt : k < m
      · have hkl : k < l.length := by have := HM.out; omega
        obtain ⟨b, off, Ae, ce, rfl, hb, p1, p2, p3, p4, -⟩ := HI.out k hkl
        have q1 := (HK.out.2.cell (p := ⟨b, _, none⟩) hb).trans p1
        have q2 := (HK.out.2.cell (p := ⟨b, _, none⟩) hb).trans p2
        have HTT := Lib.hid (tot_succ hkl)
        have hfl := HFI.out _ (List.getElem_mem hkl)
        generalize (l[k]).1 = z at *
        generalize (l[k]).2.length = y at *
        have i1 : (0 : Int) ≤ (k : Int) := by omega
        have i2 : (k : Int) < (m : Int) := by omega
        have HBX := Lib.hid (Blk.new_ wr 59 #[.int .i64 z, .slice Ae y ce] rfl)
        have HBa : Hid (Below w.heap.size w (wr.alloc (.cells #[.int .i64 z, .slice Ae y ce] 59))) := Lib.hid (HK.out.2.alloc HK.out.2.size _)
        have b1 := HBX.out.at_ 1 rfl
        have HN : Hid (t + y = tot l (k + 1) ∧ Below w.heap.size w (wr.alloc (.cells #[.int .i64 z, .slice Ae y ce] 59))) := Lib.hid ⟨by rw [HTT.out, ← HK.out.1], HBa.out⟩
        have hb1 : t + y ≤ (k + 1) * 140737488351232 := by omega
        clear p1 p2 p3 p4 hb hkl HK HTT HBa HBX
        go_wp2_with fail
        go_roundw
        case rel => exact ⟨k + 1, t + y, by omega, by go_num, by go_num, hb1, HN⟩
        case measure => simp [intOf]; omega
      · have hkm : k = m := by omega
        subst hkm
        have i2 : ¬ (k : Int) < (k : Int) := by omega
        have i3 : (k : Int) ≤ 12 := by omega
        by_cases h60 : t ≤ 60
        · have i4 : (t : Int) ≤ 60 := by omega
          have HN : Hid (FewOut w k l (.returned (.bool true)) wr) := Lib.hid ⟨true, rfl, fun _ => ⟨h12, fun p hp => by
            have h1 := mem_sum hp
            have h2 := HK.out.1
            unfold tot at h2
            rw [List.take_of_length_le (by have := HM.out; omega)] at h2
            omega⟩, HK.out.2⟩
          clear HK h60
          go_wp2_with fail
          go_ret
          exact HN.out
        · have i4 : ¬ (t : Int) ≤ 60 := by omega
          have HN : Hid (FewOut w k l (.returned (.bool false)) wr) := Lib.hid ⟨false, rfl, fun e => (by cases e), HK.out.2⟩
          clear HK h60
          go_wp2_with fail
          go_ret
          exact HN.out
  · go_enter Try.func23, Try.ntmps23
    go_wp2_with fail
    go_loopw [3, 8] (fun vt iv_ wr => ∃ (k : Nat) (t : Int), k ≤ m ∧ iv_ = .int .i64 k ∧ vt = .int .i64 t ∧ Hid (Below w.heap.size w wr)) (fun _ iv_ _ => m - (intOf iv_).toNat)
    case atStart => exact ⟨0, 0, Nat.zero_le _, rfl, rfl, Lib.hid (Below.refl _ _)⟩
    case round =>
      obtain ⟨k, t, hk, rfl, rfl, HK⟩ := hrel
      by_cases hlt : k < m
      · have hkl : k < l.length := by have := HM.out; omega
        obtain ⟨b, off, Ae, ce, rfl, hb, p1, p2, p3, p4, -⟩ := HI.out k hkl
        have q1 := (HK.out.cell (p := ⟨b, _, none⟩) hb).trans p1
        have q2 := (HK.out.cell (p := ⟨b, _, none⟩) hb).trans p2
        generalize (l[k]).1 = z at *
        generalize (l[k]).2.length = y at *
        have i1 : (0 : Int) ≤ (k : Int) := by omega
        have i2 : (k : Int) < (m : Int) := by omega
        have HBX := Lib.hid (Blk.new_ wr 59 #[.int .i64 z, .slice Ae y ce] rfl)
        have HN : Hid (Below w.heap.size w (wr.alloc (.cells #[.int .i64 z, .slice Ae y ce] 59))) := Lib.hid (HK.out.alloc HK.out.size _)
        have b1 := HBX.out.at_ 1 rfl
        clear p1 p2 p3 p4 hb hkl HK HBX
        go_wp2_with fail
        go_roundw
        case rel => exact ⟨k + 1, _, by omega, by go_num, rfl, HN⟩
        case measure => simp [intOf]; omega
      · have hkm : k = m := by omega
        subst hkm
        have i2 : ¬ (k : Int) < (k : Int) := by omega
        have i3 : ¬ (k : Int) ≤ 12 := by omega
        have HN : Hid (FewOut w k l (.returned (.bool false)) wr) := Lib.hid ⟨false, rfl, fun e => (by cases e), HK.out⟩
        clear HK
        go_wp2_with fail
        go_ret
        exact HN.out
end Go.Proofs.Ytelplccbcbegkaa.OrW
