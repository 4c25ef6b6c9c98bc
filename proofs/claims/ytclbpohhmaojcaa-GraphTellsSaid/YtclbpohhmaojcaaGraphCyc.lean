/-
  Sorting and cycles; a graph turned round.
-/
import Derived.Test.YtclbpohhmaojcaaGraphReachesWalk
namespace Go.Proofs.Ytclbpohhmaojcaa.Gr
set_option linter.unusedVariables false
open Go.Proofs.Ytclbpohhmaojcaa.GrW (add rem rk ins del isV reached Rises)

theorem ins_length' {l : List Int} (x : Int) (h : x ∉ l) : (add l x).length = l.length + 1 := by
  unfold add
  rw [if_neg (by simpa using h)]
  exact GrW.ins_length x (GrW.rk_le l x)
/-- Where an edge that ends where it begins, round a path, is. -/
def Cyc (n : Nat) (L : List (List Int)) : Prop := ∃ u v : Nat, u < n ∧ v < n ∧ E L u v ∧ Path L v u
theorem OK.edge_lt {n : Nat} {L : List (List Int)} (ok : OK n L) {u v : Nat} (h : E L u v) : u < n ∧ v < n := by
  have h2 := ok.ins _ (v : Int) h
  refine ⟨Nat.lt_of_not_le fun hu => ?_, by omega⟩
  unfold E at h
  have : L.getD (2 * u) [] = [] := by
    simp only [List.getD]
    rw [List.getElem?_eq_none (by have := ok.len; omega)]; rfl
  rw [this] at h
  simp at h
theorem Path.lt {n : Nat} {L : List (List Int)} (ok : OK n L) {u v : Nat} (h : Path L u v) (hu : u < n) : v < n := by
  induction h with
  | refl => exact hu
  | step he _ ih => exact ih (ok.edge_lt he).2
/-- In sorted vertices each edge goes on. -/
theorem Topo.before {n : Nat} {L : List (List Int)} (ok : OK n L) {out : List Int} (h : Topo n L out) {a : List Int} {v : Nat} {t : List Int} (e : out = a ++ (v : Int) :: t) {u : Nat} (he : E L u v) : (u : Int) ∈ a := by
  obtain ⟨v', hv, -, hf, -⟩ := h.part a (v : Int) t e
  have : v' = v := by omega
  subst this
  obtain ⟨hu, hv2⟩ := ok.edge_lt he
  exact hf.2.2 _ ((ok.cons u v' hu hv2).1 he)
theorem Topo.nodup {n : Nat} {L : List (List Int)} {out : List Int} (h : Topo n L out) : out.Nodup := by
  induction h with
  | nil => exact List.nodup_nil
  | @snoc out v _ hf _ ih =>
    rw [List.nodup_append]
    refine ⟨ih, by simp, fun a ha b hb => ?_⟩
    rw [List.mem_singleton] at hb
    rw [hb]
    exact fun e => hf.2.1 (by rw [← e]; exact ha)
/-- Whoever reaches one that is told is told with it, or ahead. -/
theorem Topo.path {n : Nat} {L : List (List Int)} (ok : OK n L) {out : List Int} (h : Topo n L out) {u v : Nat} (hp : Path L u v) : ∀ a t, out = a ++ (v : Int) :: t → u = v ∨ (u : Int) ∈ a := by
  induction hp with
  | refl => intro a t e; exact .inl rfl
  | @step u x v he hp ih =>
    intro a t e
    rcases ih a t e with rfl | hx
    · exact .inr (h.before ok e he)
    · obtain ⟨a1, a2, rfl⟩ := List.append_of_mem hx
      have e2 : out = a1 ++ (x : Int) :: (a2 ++ (v : Int) :: t) := by rw [e]; simp
      exact .inr (List.mem_append_left _ (h.before ok e2 he))
/-- Where all are told there is no cycle. -/
theorem Topo.acyclic {n : Nat} {L : List (List Int)} (ok : OK n L) {out : List Int} (h : Topo n L out) (hl : out.length = n) : ¬ Cyc n L := by
  rintro ⟨u, v, hu, hv, he, hp⟩
  have hall : ∀ k, k < n → (k : Int) ∈ out := fun k hk => by
    have h0 := h.length
    have : unt n out = 0 := by omega
    unfold unt at this
    rw [List.countP_eq_zero] at this
    have := this k (List.mem_range.2 hk)
    simpa using this
  obtain ⟨a, t, e⟩ := List.append_of_mem (hall v hv)
  have hua := h.before ok e he
  obtain ⟨a1, a2, ea⟩ := List.append_of_mem hua
  have e2 : out = a1 ++ (u : Int) :: (a2 ++ (v : Int) :: t) := by rw [e, ea]; simp
  have hd := h.nodup
  rcases h.path ok hp a1 _ e2 with rfl | hva
  · exact ok.self v hv he
  · rw [e2, List.nodup_append] at hd
    exact hd.2.2 (v : Int) hva (v : Int) (by simp) rfl
/-- Where one is not told, and none is free, there is a cycle. -/
theorem stuck_cyc {n : Nat} {L : List (List Int)} (ok : OK n L) {out : List Int} (hm : ∀ v, ¬ Free n L out v) {v : Nat} (hv : v < n) (hv2 : (v : Int) ∉ out) : Cyc n L := by
  apply Classical.byContradiction
  intro hc
  have hdec : ∀ x y, Decidable (Path L x y) := fun x y => Classical.propDecidable _
  have main : ∀ k v, v < n → (v : Int) ∉ out → (List.range n).countP (fun x => @decide (Path L x v) (hdec x v)) ≤ k → False := by
    intro k
    induction k with
    | zero =>
      intro v hv _ h0
      have := (List.countP_eq_zero.1 (Nat.le_zero.1 h0)) v (List.mem_range.2 hv)
      simp only [decide_eq_true_eq] at this
      exact this (.refl v)
    | succ k ih =>
      intro v hv hv2 hk
      obtain ⟨x, hx, hx2⟩ : ∃ x ∈ intos L v, x ∉ out := by
        apply Classical.byContradiction
        intro hn
        exact hm v ⟨hv, hv2, fun u hu => Classical.byContradiction fun h => hn ⟨u, hu, h⟩⟩
      obtain ⟨h1, h2⟩ := ok.ins _ x hx
      obtain ⟨p, rfl⟩ : ∃ p : Nat, x = p := ⟨x.toNat, by omega⟩
      have hp : p < n := by omega
      have he : E L p v := (ok.cons p v hp hv).2 hx
      refine ih p hp hx2 ?_
      have hle : (List.range n).countP (fun x => @decide (Path L x p) (hdec x p)) + 1 ≤ (List.range n).countP (fun x => @decide (Path L x v) (hdec x v)) := by
        have hless := countP_less (p := fun x => @decide (Path L x v) (hdec x v)) (q := fun x => (@decide (Path L x v) (hdec x v)) && decide (x ≠ v)) (v := v) (by simpa using Path.refl v) (fun x => rfl) hv
        rw [← hless]
        refine Nat.add_le_add_right (List.countP_mono_left fun y hy hd => ?_) 1
        simp only [decide_eq_true_eq, Bool.and_eq_true] at hd ⊢
        refine ⟨hd.trans (.step he (.refl v)), ?_⟩
        rintro rfl
        exact hc ⟨p, y, hp, hv, he, hd⟩
      omega
  exact main _ v hv hv2 (Nat.le_refl _)
/-- Sorted just if there is no cycle. -/
theorem sorted_iff {n : Nat} {L : List (List Int)} (ok : OK n L) {out : List Int} (h : Topo n L out) (hm : ∀ v, ¬ Free n L out v) : out.length = n ↔ ¬ Cyc n L := by
  refine ⟨h.acyclic ok, fun hc => ?_⟩
  apply Classical.byContradiction
  intro hne
  have h0 := h.length
  have hu : 0 < unt n out := by omega
  unfold unt at hu
  rw [List.countP_pos_iff] at hu
  obtain ⟨v, hv, hv2⟩ := hu
  exact hc (stuck_cyc ok hm (List.mem_range.1 hv) (by simpa using hv2))
/-- A graph, and that with all edges turned round. -/
structure Turn (n : Nat) (L H : List (List Int)) : Prop where
  out : ∀ u, u < n → outs H u = intos L u
  into : ∀ u, u < n → intos H u = outs L u
theorem Turn.edge {n : Nat} {L H : List (List Int)} (okL : OK n L) (okH : OK n H) (h : Turn n L H) {u v : Nat} : E L u v → E H v u := fun he => by
  obtain ⟨hu, hv⟩ := okL.edge_lt he
  have h1 : (v : Int) ∈ intos H u := by rw [h.into u hu]; exact he
  exact (okH.cons v u hv hu).2 h1
theorem Turn.path {n : Nat} {L H : List (List Int)} (okL : OK n L) (okH : OK n H) (h : Turn n L H) {u v : Nat} (hp : Path L u v) : Path H v u := by
  induction hp with
  | refl => exact .refl _
  | step he _ ih => exact ih.trans (.step (h.edge okL okH he) (.refl _))
theorem Turn.symm {n : Nat} {L H : List (List Int)} (h : Turn n L H) : Turn n H L := ⟨fun u hu => (h.into u hu).symm, fun u hu => (h.out u hu).symm⟩
theorem Turn.cyc {n : Nat} {L H : List (List Int)} (okL : OK n L) (okH : OK n H) (h : Turn n L H) : Cyc n L → Cyc n H := fun ⟨u, v, hu, hv, he, hp⟩ => ⟨v, u, hv, hu, h.edge okL okH he, h.path okL okH hp⟩
theorem Turn.reached {n : Nat} {L H : List (List Int)} (okL : OK n L) (okH : OK n H) (h : Turn n L H) (x y : Int) : reached n L x y ↔ reached n H y x :=
  ⟨fun ⟨a, b, c⟩ => ⟨b, a, h.path okL okH c⟩, fun ⟨a, b, c⟩ => ⟨b, a, h.symm.path okH okL c⟩⟩
/-- How many edges there are. -/
def cnt (L : List (List Int)) (k : Nat) : Nat := (edgesTo L k).length
theorem cnt_succ (L : List (List Int)) (k : Nat) : cnt L (k + 1) = cnt L k + (outs L k).length := by
  unfold cnt; rw [edgesTo_succ, List.length_append, List.length_map]
theorem cnt_put {n : Nat} {L : List (List Int)} (ok : OK n L) {a b : Nat} (ha : a < n) (hb : b < n) (k : Nat) : cnt (putL L a b) k = cnt L k + (if a < k ∧ (b : Int) ∉ outs L a then 1 else 0) := by
  induction k with
  | zero => simp [cnt, edgesTo]
  | succ k ih =>
    rw [cnt_succ, cnt_succ, ih]
    have e : outs (putL L a b) k = if k = a then add (outs L k) b else outs L k := by
      unfold outs
      rw [put_getD ok ha hb]
      by_cases h : k = a
      · subst h; rw [if_pos rfl, if_pos rfl]
      · rw [if_neg (by omega), if_neg (by omega), if_neg h]
    rw [e]
    by_cases h : k = a
    · subst h
      rw [if_pos rfl]
      by_cases hm : (b : Int) ∈ outs L k
      · have : add (outs L k) b = outs L k := by unfold add; rw [if_pos (by simpa using hm)]
        rw [this]; simp [hm]
      · rw [ins_length' _ hm]; simp [hm]; omega
    · rw [if_neg h]
      have : (a < k + 1) = (a < k) := propext ⟨fun h => by omega, fun h => by omega⟩
      simp only [this]
      omega
structure TurnC (n : Nat) (L H : List (List Int)) : Prop extends Turn n L H where
  okL : OK n L
  okH : OK n H
  many : cnt L n = cnt H n
theorem TurnC.ofE {n : Nat} {L H : List (List Int)} (hn : 0 < n) (h : TurnC n L H) (x : Int × Int) : TurnC n (ofE n L x) (ofE n H (x.2, x.1)) := by
  unfold Gr.ofE
  by_cases he : x.1 % (n : Int) = x.2 % (n : Int)
  · rw [if_pos he, if_pos he.symm]; exact h
  · rw [if_neg he, if_neg (fun e => he e.symm)]
    have h1 := Int.emod_nonneg x.1 (b := (n : Int)) (by omega)
    have h2 := Int.emod_lt_of_pos x.1 (b := (n : Int)) (by omega)
    have h3 := Int.emod_nonneg x.2 (b := (n : Int)) (by omega)
    have h4 := Int.emod_lt_of_pos x.2 (b := (n : Int)) (by omega)
    obtain ⟨a, ha⟩ : ∃ a : Nat, x.1 % (n : Int) = a := ⟨(x.1 % (n : Int)).toNat, by omega⟩
    obtain ⟨b, hb⟩ : ∃ b : Nat, x.2 % (n : Int) = b := ⟨(x.2 % (n : Int)).toNat, by omega⟩
    simp only [ha, hb, Int.toNat_natCast]
    have han : a < n := by omega
    have hbn : b < n := by omega
    have hne : a ≠ b := by omega
    refine ⟨⟨fun u hu => ?_, fun u hu => ?_⟩, h.okL.put han hbn hne, h.okH.put hbn han (Ne.symm hne), ?_⟩
    · have e1 := h.out u hu
      unfold outs intos at *
      rw [put_getD h.okH hbn han, put_getD h.okL han hbn, if_neg (by omega : ¬ 2 * u + 1 = 2 * a)]
      by_cases hub : u = b
      · rw [if_pos (by omega), if_pos (by omega), e1]
      · rw [if_neg (by omega), if_neg (by omega), if_neg (by omega), e1]
    · have e1 := h.into u hu
      unfold outs intos at *
      rw [put_getD h.okH hbn han, put_getD h.okL han hbn, if_neg (by omega : ¬ 2 * u + 1 = 2 * b)]
      by_cases hua : u = a
      · rw [if_pos (by omega), if_pos (by omega), e1]
      · rw [if_neg (by omega), if_neg (by omega), if_neg (by omega), e1]
    · rw [cnt_put h.okL han hbn, cnt_put h.okH hbn han, h.many]
      have e : ((b : Int) ∈ outs L a) = ((a : Int) ∈ outs H b) := propext (by rw [h.out b hbn, h.okL.cons a b han hbn])
      simp only [han, hbn, true_and, e]
theorem TurnC.start (n : Nat) : TurnC n (List.replicate (2 * n) []) (List.replicate (2 * n) []) := by
  have e : ∀ i, (List.replicate (2 * n) ([] : List Int)).getD i [] = [] := fun i => by
    simp only [List.getD]
    by_cases h : i < 2 * n
    · simp [h]
    · rw [List.getElem?_eq_none (by simp; omega)]; rfl
  exact ⟨⟨fun u _ => by unfold outs intos; rw [e, e], fun u _ => by unfold outs intos; rw [e, e]⟩, OK.empty n, OK.empty n, rfl⟩
theorem TurnC.foldl {n : Nat} (hn : 0 < n) : ∀ (l : List (Int × Int)) {L H : List (List Int)}, TurnC n L H → TurnC n (l.foldl (Gr.ofE n) L) ((l.map fun x => (x.2, x.1)).foldl (Gr.ofE n) H)
  | [], _, _, h => h
  | x :: l, _, _, h => TurnC.foldl hn l (h.ofE hn x)
theorem TurnC.ofL {n : Nat} (hn : 0 < n) (l : List (Int × Int)) : TurnC n (ofL n (l.take 80)) (ofL n ((l.map fun x => (x.2, x.1)).take 80)) := by
  rw [← List.map_take]
  exact TurnC.foldl hn _ (TurnC.start n)
end Go.Proofs.Ytclbpohhmaojcaa.Gr
