/-
  What an edge that is put does to places, plainly.
-/
import Derived.Test.YtelplccbcbegkaaOrderPl
namespace Go.Proofs.Ytelplccbcbegkaa.Ord
set_option linter.unusedVariables false
open Go.Proofs.Ytelplccbcbegkaa.Gr (E Path Inside OK outs intos Cyc putL)

/-- How many vertices have another place. -/
def moved (n : Nat) (P Q : List Nat) : Nat := (List.range n).countP fun w => decide (P.getD w 0 ≠ Q.getD w 0)
theorem moved_self (n : Nat) (P : List Nat) : moved n P P = 0 := by
  unfold moved
  rw [List.countP_eq_zero]
  simp
def chg (P : List Nat) (x : Nat × Nat) : Bool := decide (P.getD x.1 0 ≠ x.2)
section
variable {n : Nat} {P A back fore pl : List Nat}
theorem changed_eq (hP : Perm n P A) (h : Parts n back fore pl) : ((whoL A back fore).zip pl).countP (chg P) = moved n P (newP P A back fore pl) := by
  have hw := who_len (A := A) h
  have hnd := who_nodup hP h
  have e1 : ((whoL A back fore).zip pl).countP (chg P) = (whoL A back fore).countP fun w => decide (P.getD w 0 ≠ (newP P A back fore pl).getD w 0) := by
    have e : whoL A back fore = ((whoL A back fore).zip pl).map (·.1) := by rw [List.map_fst_zip (by omega)]
    have e2 : (whoL A back fore).countP (fun w => decide (P.getD w 0 ≠ (newP P A back fore pl).getD w 0)) = (((whoL A back fore).zip pl).map (·.1)).countP (fun w => decide (P.getD w 0 ≠ (newP P A back fore pl).getD w 0)) := by rw [← e]
    rw [e2, List.countP_map]
    refine List.countP_congr fun x hx => ?_
    obtain ⟨i, hi, rfl⟩ := List.getElem_of_mem hx
    rw [List.length_zip] at hi
    have hi2 : i < (back ++ fore).length := by rw [← h.all.length_eq]; omega
    have hlt := h.lt (List.getElem_mem hi2)
    have e3 : (whoL A back fore)[i]'(by omega) = A.getD (back ++ fore)[i] 0 := by unfold whoL; rw [List.getElem_map]
    have := newP_at hP h (i := i) (by omega) (hP.ap _ hlt).1 (hP.ap _ hlt).2.symm
    simp only [chg, Function.comp, List.getElem_zip, e3, this]
  rw [e1]
  unfold moved
  have e4 : (whoL A back fore).Perm ((List.range n).filter fun w => decide (w ∈ whoL A back fore)) := by
    rw [List.perm_ext_iff_of_nodup hnd (List.nodup_range.filter _)]
    intro a
    rw [List.mem_filter, decide_eq_true_eq, List.mem_range]
    refine ⟨fun ha => ⟨?_, ha⟩, fun ha => ha.2⟩
    unfold whoL at ha
    obtain ⟨p, hp, rfl⟩ := List.mem_map.1 ha
    exact (hP.ap p (h.lt hp)).1
  rw [e4.countP_eq, List.countP_filter]
  refine List.countP_congr fun w hw => ?_
  rw [List.mem_range] at hw
  simp only [Bool.and_eq_true, decide_eq_true_eq]
  refine ⟨fun h => h.1, fun hne => ⟨hne, ?_⟩⟩
  refine Classical.byContradiction fun hc => hne ?_
  refine (newP_other hP h hw fun hm => hc ?_).symm
  unfold whoL
  exact List.mem_map.2 ⟨_, hm, (hP.pa w hw).2⟩
end
/-- The places of all that is met. -/
def IsPart (nx : Nat → List Int) (q : Nat → Bool) (P : List Nat) (u : Nat) (l : List Nat) : Prop := l.Pairwise (· < ·) ∧ ∀ p, p ∈ l ↔ ∃ y, Way nx q u y ∧ P.getD y 0 = p
section
variable {n : Nat} {L : List (List Int)} {P A back fore pl : List Nat} {u v : Nat}
theorem fore_cycle (ok : OK n L) (hP : Perm n P A) (hup : Up L P) (hu : u < n) (hv : v < n) (hf : IsPart (outs L) (fun y => decide (P.getD y 0 ≤ P.getD u 0)) P v fore) : P.getD u 0 ∈ fore ↔ Path L v u := by
  rw [hf.2]
  constructor
  · rintro ⟨y, h1, h2⟩
    have h3 := way_path h1
    have : y = u := hP.inj (h3.lt ok hv) hu h2
    subst this
    exact h3
  · exact fun h => ⟨u, path_way hup h (Nat.le_refl _), rfl⟩
theorem fore_mem (ok : OK n L) (hP : Perm n P A) (hup : Up L P) (hv : v < n) (hf : IsPart (outs L) (fun y => decide (P.getD y 0 ≤ P.getD u 0)) P v fore) {x : Nat} (hx : x < n) : P.getD x 0 ∈ fore ↔ Path L v x ∧ (x = v ∨ P.getD x 0 ≤ P.getD u 0) := by
  rw [hf.2]
  constructor
  · rintro ⟨y, h1, h2⟩
    have h3 := way_path h1
    have : y = x := hP.inj (h3.lt ok hv) hx h2
    subst this
    exact ⟨h3, by rcases h1.ok_or with h | h
                  · exact .inl h
                  · exact .inr (of_decide_eq_true h)⟩
  · rintro ⟨h, rfl | h2⟩
    · exact ⟨x, .refl _, rfl⟩
    · exact ⟨x, path_way hup h h2, rfl⟩
theorem back_mem (ok : OK n L) (hP : Perm n P A) (hup : Up L P) (hu : u < n) (hf : IsPart (intos L) (fun y => decide (P.getD v 0 ≤ P.getD y 0)) P u back) {x : Nat} (hx : x < n) : P.getD x 0 ∈ back ↔ Path L x u ∧ (x = u ∨ P.getD v 0 ≤ P.getD x 0) := by
  rw [hf.2]
  constructor
  · rintro ⟨y, h1, h2⟩
    have h3 := wayb_path ok hu h1
    have : y = x := hP.inj h3.2 hx h2
    subst this
    exact ⟨h3.1, by rcases h1.ok_or with h | h
                    · exact .inl h
                    · exact .inr (of_decide_eq_true h)⟩
  · rintro ⟨h, rfl | h2⟩
    · exact ⟨x, .refl _, rfl⟩
    · exact ⟨x, path_wayb ok hup hu h h2, rfl⟩
theorem part_lt (hP : Perm n P A) {nx : Nat → List Int} {q : Nat → Bool} {l : List Nat} {x : Nat} (hl : IsPart nx q P x l) (hx : ∀ y, Way nx q x y → y < n) : ∀ p ∈ l, p < n := fun p hp => by
  obtain ⟨y, h1, rfl⟩ := (hl.2 p).1 hp
  exact (hP.pa y (hx y h1)).1
theorem parts_of (ok : OK n L) (hP : Perm n P A) (hup : Up L P) (hu : u < n) (hv : v < n) (hf : IsPart (outs L) (fun y => decide (P.getD y 0 ≤ P.getD u 0)) P v fore) (hb : IsPart (intos L) (fun y => decide (P.getD v 0 ≤ P.getD y 0)) P u back) (hc : ¬ Path L v u) (hr : pl.Pairwise (· < ·)) (ha : pl.Perm (back ++ fore)) : Parts n back fore pl where
  rb := hb.1
  rf := hf.1
  nb := part_lt hP hb fun y hy => (wayb_path ok hu hy).2
  nf := part_lt hP hf fun y hy => (way_path hy).lt ok hv
  apart := fun p hp hp2 => by
    obtain ⟨y, h1, rfl⟩ := (hb.2 p).1 hp
    obtain ⟨h2, h3⟩ := wayb_path ok hu h1
    exact hc (((fore_mem ok hP hup hv hf h3).1 hp2).1.trans h2)
  rp := hr
  all := ha
/-- What a turn leaves. -/
structure Turned (n : Nat) (L : List (List Int)) (P A : List Nat) (u v : Nat) (P' A' : List Nat) : Prop where
  perm : Perm n P' A'
  up : Up (putL L u v) P'
  span : ∀ w, w < n → P'.getD w 0 ≠ P.getD w 0 → P.getD v 0 ≤ P.getD w 0 ∧ P.getD w 0 ≤ P.getD u 0 ∧ P.getD v 0 ≤ P'.getD w 0 ∧ P'.getD w 0 ≤ P.getD u 0
  ups : ∀ x y, x < n → y < n → P.getD x 0 < P'.getD x 0 → P.getD y 0 < P'.getD y 0 → (P'.getD x 0 < P'.getD y 0 ↔ P.getD x 0 < P.getD y 0)
  downs : ∀ x y, x < n → y < n → P'.getD x 0 < P.getD x 0 → P'.getD y 0 < P.getD y 0 → (P'.getD x 0 < P'.getD y 0 ↔ P.getD x 0 < P.getD y 0)
theorem put_edge (ok : OK n L) (hu : u < n) (hv : v < n) {x y : Nat} : E (putL L u v) x y ↔ E L x y ∨ (x = u ∧ y = v) := by
  have := Gr.put_out ok hu hv x (y : Int)
  unfold outs at this
  unfold E
  rw [this]
  constructor
  · rintro (h | ⟨h1, h2⟩)
    · exact .inl h
    · exact .inr ⟨h1, by omega⟩
  · rintro (h | ⟨h1, h2⟩)
    · exact .inl h
    · exact .inr ⟨h1, by rw [h2]⟩
theorem Turned.still (ok : OK n L) (hP : Perm n P A) (hup : Up L P) (hu : u < n) (hv : v < n) (hlt : P.getD u 0 < P.getD v 0) : Turned n L P A u v P A where
  perm := hP
  up := fun x y h => by
    rcases (put_edge ok hu hv).1 h with h | ⟨rfl, rfl⟩
    · exact hup x y h
    · exact hlt
  span := fun w _ h => absurd rfl h
  ups := fun x y _ _ h => by omega
  downs := fun x y _ _ h => by omega
theorem Turned.turn (ok : OK n L) (hP : Perm n P A) (hup : Up L P) (hu : u < n) (hv : v < n) (hlt : P.getD v 0 < P.getD u 0) (hf : IsPart (outs L) (fun y => decide (P.getD y 0 ≤ P.getD u 0)) P v fore) (hb : IsPart (intos L) (fun y => decide (P.getD v 0 ≤ P.getD y 0)) P u back) (hc : ¬ Path L v u) (hr : pl.Pairwise (· < ·)) (ha : pl.Perm (back ++ fore)) :
    Turned n L P A u v (newP P A back fore pl) (newA A back fore pl) := by
  have hp := parts_of ok hP hup hu hv hf hb hc hr ha
  have fm : ∀ {x : Nat}, x < n → (P.getD x 0 ∈ fore ↔ Path L v x ∧ P.getD x 0 ≤ P.getD u 0) := fun {x} hx => by
    rw [fore_mem ok hP hup hv hf hx]
    exact ⟨fun h => ⟨h.1, by rcases h.2 with rfl | h
                             · omega
                             · exact h⟩, fun h => ⟨h.1, .inr h.2⟩⟩
  have bm : ∀ {x : Nat}, x < n → (P.getD x 0 ∈ back ↔ Path L x u ∧ P.getD v 0 ≤ P.getD x 0) := fun {x} hx => by
    rw [back_mem ok hP hup hu hb hx]
    exact ⟨fun h => ⟨h.1, by rcases h.2 with rfl | h
                             · omega
                             · exact h⟩, fun h => ⟨h.1, .inr h.2⟩⟩
  have inS : ∀ p, p ∈ back ++ fore → P.getD v 0 ≤ p ∧ p ≤ P.getD u 0 := fun p h => by
    have hpn := hp.lt h
    have e := (hP.ap p hpn).2
    rcases List.mem_append.1 h with h | h
    · rw [← e] at h ⊢
      obtain ⟨h1, h2⟩ := (bm (hP.ap p hpn).1).1 h
      exact ⟨h2, hup.path h1⟩
    · rw [← e] at h ⊢
      obtain ⟨h1, h2⟩ := (fm (hP.ap p hpn).1).1 h
      exact ⟨hup.path h1, h2⟩
  have other : ∀ {x : Nat}, x < n → P.getD x 0 ∉ back → P.getD x 0 ∉ fore → (newP P A back fore pl).getD x 0 = P.getD x 0 := fun {x} hx h1 h2 => newP_other hP hp hx fun h => by
    rcases List.mem_append.1 h with h | h
    · exact h1 h
    · exact h2 h
  refine ⟨hp.perm hP, fun x y he => ?_, fun w hw hne => ?_, fun x y hx hy h1 h2 => ?_, fun x y hx hy h1 h2 => ?_⟩
  · rcases (put_edge ok hu hv).1 he with he | ⟨rfl, rfl⟩
    · obtain ⟨hx, hy⟩ := ok.edge_lt he
      have hxy := hup x y he
      by_cases xf : P.getD x 0 ∈ fore
      · obtain ⟨x1, x2⟩ := (fm hx).1 xf
        by_cases yh : P.getD y 0 ≤ P.getD u 0
        · have yf : P.getD y 0 ∈ fore := (fm hy).2 ⟨x1.trans (.step he (.refl _)), yh⟩
          exact (hp.fore_fore hP hx hy xf yf).2 hxy
        · have := (inS _ (hp.up hP hx xf).2).2
          have yn : (newP P A back fore pl).getD y 0 = P.getD y 0 := other hy (fun h => yh (inS _ (List.mem_append_left _ h)).2) (fun h => yh (inS _ (List.mem_append_right _ h)).2)
          omega
      · by_cases xb : P.getD x 0 ∈ back
        · by_cases yf : P.getD y 0 ∈ fore
          · exact hp.back_fore hP hx hy xb yf
          · by_cases yb : P.getD y 0 ∈ back
            · exact (hp.back_back hP hx hy xb yb).2 hxy
            · have := (hp.down hP hx xb).1
              have := other hy yb yf
              omega
        · have e := other hx xb xf
          rw [e]
          by_cases yf : P.getD y 0 ∈ fore
          · have := (hp.up hP hy yf).1
            omega
          · by_cases yb : P.getD y 0 ∈ back
            · obtain ⟨y1, y2⟩ := (bm hy).1 yb
              have h1 : ¬ P.getD v 0 ≤ P.getD x 0 := fun h => xb ((bm hx).2 ⟨.step he y1, h⟩)
              have h2 := (inS _ (hp.down hP hy yb).2).1
              omega
            · rw [other hy yb yf]; exact hxy
    · exact hp.back_fore hP hu hv ((bm hu).2 ⟨.refl _, by omega⟩) ((fm hv).2 ⟨.refl _, by omega⟩)
  · by_cases wf : P.getD w 0 ∈ fore
    · have a := inS _ (List.mem_append_right back wf)
      have b := inS _ (hp.up hP hw wf).2
      exact ⟨a.1, a.2, b.1, b.2⟩
    · by_cases wb : P.getD w 0 ∈ back
      · have a := inS _ (List.mem_append_left fore wb)
        have b := inS _ (hp.down hP hw wb).2
        exact ⟨a.1, a.2, b.1, b.2⟩
      · exact absurd (other hw wb wf) hne
  · have key : ∀ {z : Nat}, z < n → P.getD z 0 < (newP P A back fore pl).getD z 0 → P.getD z 0 ∈ fore := fun {z} hz h => by
      refine Classical.byContradiction fun hc => ?_
      by_cases zb : P.getD z 0 ∈ back
      · have := (hp.down hP hz zb).1
        omega
      · have := other hz zb hc
        omega
    exact hp.fore_fore hP hx hy (key hx h1) (key hy h2)
  · have key : ∀ {z : Nat}, z < n → (newP P A back fore pl).getD z 0 < P.getD z 0 → P.getD z 0 ∈ back := fun {z} hz h => by
      refine Classical.byContradiction fun hc => ?_
      by_cases zb : P.getD z 0 ∈ fore
      · have := (hp.up hP hz zb).1
        omega
      · have := other hz hc zb
        omega
    exact hp.back_back hP hx hy (key hx h1) (key hy h2)
end
end Go.Proofs.Ytelplccbcbegkaa.Ord
