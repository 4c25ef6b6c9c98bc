/-
  The walk of behind.
-/
import Derived.Test.YtmkijkkddoamgaaJourOpened
namespace Go.Proofs.Ytmkijkkddoamgaa.Jo
set_option linter.unusedVariables false
open Go Go.RowKit Go.Shelf Go.Proofs Go.Proofs.Ytmkijkkddoamgaa Go.Proofs.Ytmkijkkddoamgaa.Wd Go.Proofs.Ytmkijkkddoamgaa.Dk Go.Proofs.Ytmkijkkddoamgaa.Hd Go.Proofs.Ytmkijkkddoamgaa.HdW Go.Proofs.Ytmkijkkddoamgaa.BatW
open Go.Proofs.Ytmkijkkddoamgaa.Bat (B writ allRight)
section
variable {w w' : World} {Z Z' : Nat → Prop} {A : Option Addr} {L : List B} {xs : List Value} {v : Value} {d : List UInt8} {ls : B}
theorem SRZ.one (h : SRZ w Z v ls) : v.oneCell' = true := by obtain ⟨A, c, rfl, _⟩ := h; rfl
/-- Values that all read as batches. -/
def Reads3Z (w : World) (Z : Nat → Prop) (xs : List Value) (L : List B) : Prop := xs.length = L.length ∧ ∀ j (h : j < L.length), ∃ v, xs[j]? = some v ∧ SRZ w Z v L[j]
theorem BRows3Z.reads (h : BRows3Z w Z A L) : ∃ xs, RowZ w Z A xs ∧ Reads3Z w Z xs L ∧ ∀ u ∈ xs, u.oneCell' = true := by
  have ex : ∀ j, ∃ v, (hj : j < L.length) → (∃ b off, A = some ⟨b, off, none⟩ ∧ Z b ∧ w.cell? ⟨b, off + j, none⟩ = some v) ∧ SRZ w Z v L[j] := fun j => by
    by_cases hj : j < L.length
    · obtain ⟨b, off, v, e, hb1, hc, hv⟩ := h j hj
      exact ⟨v, fun _ => ⟨⟨b, off, e, hb1, hc⟩, hv⟩⟩
    · exact ⟨undef, fun h => absurd h hj⟩
  refine ⟨(List.range L.length).map fun j => (ex j).choose, fun j hj => ?_, ⟨by simp, fun j hj => ?_⟩, fun u hu => ?_⟩
  · have hj' : j < L.length := by simpa using hj
    obtain ⟨⟨b, off, e, hb, hc⟩, _⟩ := (ex j).choose_spec hj'
    exact ⟨b, off, e, hb, by simpa using hc⟩
  · exact ⟨(ex j).choose, by simp [hj], ((ex j).choose_spec hj).2⟩
  · obtain ⟨j, hj, rfl⟩ := List.mem_map.1 hu
    exact ((ex j).choose_spec (List.mem_range.1 hj)).2.one
theorem Reads3Z.rows (h : Reads3Z w Z xs L) (hr : RowZ w Z A xs) : BRows3Z w Z A L := fun j hj => by
  obtain ⟨v, h1, h2⟩ := h.2 j hj
  have hl := h.1
  obtain ⟨b, off, e, hb, hc⟩ := hr j (by omega)
  refine ⟨b, off, v, e, hb, ?_, h2⟩
  rw [hc, ← h1, List.getElem?_eq_getElem]
theorem Reads3Z.keep (h : Reads3Z w Z xs L) (hs : SameZ Z w w') (hz : ∀ b, Z b → Z' b) : Reads3Z w' Z' xs L := ⟨h.1, fun j hj => by obtain ⟨v, h1, h2⟩ := h.2 j hj; exact ⟨v, h1, (h2.keep hs).more hz⟩⟩
theorem Reads3Z.snoc (h : Reads3Z w Z xs L) {u : Value} {b : B} (hu : SRZ w Z u b) : Reads3Z w Z (xs ++ [u]) (L ++ [b]) := by
  have hl := h.1
  refine ⟨by simp [hl], fun j hj => ?_⟩
  by_cases hlt : j < L.length
  · obtain ⟨v, h1, h2⟩ := h.2 j hlt
    exact ⟨v, by rw [List.getElem?_append_left (by omega)]; exact h1, by rw [List.getElem_append_left hlt]; exact h2⟩
  · have : j = L.length := by simp at hj; omega
    subst this
    exact ⟨u, by rw [List.getElem?_append_right (by omega), hl]; simp, by simpa using hu⟩
end
/-- What behind answers. -/
def BehindOut (w : World) (Z Z2 : Nat → Prop) (LL : List B) (e : Ending) (w' : World) : Prop :=
  ∃ A' c' Z', e = .returned (.slice A' LL.length c') ∧ LL.length ≤ c' ∧ c' ≤ maxLen ∧ BRows3Z w' Z' A' LL ∧ (∀ b, Z' b → Z b ∨ Z2 b ∨ w.heap.size ≤ b) ∧ (∀ b, Z' b → b < w'.heap.size) ∧ Below w.heap.size w w'
/-- The new row reads as the old one with a batch more. -/
theorem behind_end {w w1 w' : World} {Z Z2 : Nat → Prop} {L : List B} {rows : B} {xs : List Value} {u v' : Value} {nL : Nat} (hn : nL = L.length) (hx : Reads3Z w Z xs L) (hu : SRZ w Z2 u rows) (hZ : ∀ b, Z b → b < w.heap.size) (hZ2 : ∀ b, Z2 b → b < w.heap.size) (hb : Below w.heap.size w w')
    {base : Nat} (hbs : w.heap.size ≤ base) (ho : w'.ownsRow base 30 1 v' (nL + 1) (xs ++ [u])) : ∃ A' c', v' = .slice A' (nL + 1) c' ∧ BehindOut w Z Z2 (L ++ [rows]) (.returned v') w' := by
  have hsm : ∀ Y : Nat → Prop, (∀ b, Y b → b < w.heap.size) → SameZ Y w w' := fun Y h b hY => hb.block b (h b hY)
  obtain ⟨A', c', e, hr⟩ := own_slice ho
  subst e
  have hc : nL + 1 ≤ c' ∧ c' ≤ maxLen := by
    rcases ho.2 with ⟨h1, h0⟩ | ⟨g, cap, cur, h1, _, _, h7, h8, _⟩
    · simp only [Value.slice.injEq] at h1; have := h1.2.1; omega
    · simp only [Value.slice.injEq] at h1; have := h1.2.2; omega
  refine ⟨A', c', rfl, A', c', fun b => Z b ∨ Z2 b ∨ Since base w'.heap.size b, by rw [List.length_append, ← hn]; rfl, by rw [List.length_append, ← hn]; exact hc.1, hc.2, ?_, ?_, ?_, hb⟩
  · refine Reads3Z.rows (xs := xs ++ [u]) ((hx.keep (hsm Z hZ) fun b h => .inl h).snoc ((hu.keep (hsm Z2 hZ2)).more fun b h => .inr (.inl h))) ((own_rowz ho).more fun b h => .inr (.inr h))
  · rintro b (h | h | h)
    · exact .inl h
    · exact .inr (.inl h)
    · exact .inr (.inr (Nat.le_trans hbs h.1))
  · rintro b (h | h | h)
    · exact Nat.lt_of_lt_of_le (hZ b h) hb.size
    · exact Nat.lt_of_lt_of_le (hZ2 b h) hb.size
    · exact h.2
theorem st_emp (w1 : World) : Below w1.heap.size w1 (w1.alloc (.cells #[] 30)).drew ∧ (w1.alloc (.cells #[] 30)).drew.ownsRow w1.heap.size 30 1 (.slice (some ⟨w1.heap.size, 0, none⟩) 0 0) 0 [] :=
  ⟨((Below.refl _ w1).alloc (Nat.le_refl _) _).drew, own_keep (own_empty w1 _ (Nat.le_refl _)) fun _ _ => rfl⟩
theorem st_one (w1 : World) (u : Value) : Below w1.heap.size w1 (w1.alloc (.cells #[u] 30)).drew ∧ Blk (w1.alloc (.cells #[u] 30)).drew w1.heap.size 30 #[u] :=
  ⟨((Below.refl _ w1).alloc (Nat.le_refl _) _).drew, Blk.new_ w1 30 #[u] rfl⟩
set_option maxRecDepth 100000 in
set_option maxHeartbeats 4000000 in
theorem behind_any {w : World} {Z Z2 : Nat → Prop} {A : Option Addr} {nL c : Nat} {L : List B} {rows : B} (hn : nL = L.length) (hnc : nL ≤ c) (hn1 : nL ≤ 1000) (hR : BRows3Z w Z A L) (hZ : ∀ b, Z b → b < w.heap.size) (hZ2 : ∀ b, Z2 b → b < w.heap.size)
    (cs : Array Value) (turn : Bool) {A1 : Option Addr} {m c1 : Nat} (k0 : cs[0]? = some (.slice A1 m c1)) (k1 : cs[1]? = some (.bool turn)) (hu : SRZ w Z2 (.slice A1 m c1) rows) :
    Calls Try.prog 28 #[.slice A nL c, .agg cs] w (BehindOut w Z Z2 (behindL L rows turn)) := by
  obtain ⟨j0, hj0, hy0, hy1, hy2⟩ := info_parts infoSS
  obtain ⟨xs, hx1, hx2, hx3⟩ := hR.reads
  have hxl := hx2.1
  have hB := (Below.refl w.heap.size w).alloc (Nat.le_refl _) (.cells cs 69)
  have q := Blk.new_ w 69 cs rfl
  have d0 := Blk.at_ q 0 k0
  have d1 := Blk.at_ q 1 k1
  obtain ⟨out, ho⟩ : ∃ P, BehindOut w Z Z2 (behindL L rows turn) = P := ⟨_, rfl⟩
  rw [ho]
  have HOut := Lib.hid ho
  have HQ := Lib.hid q
  have HB := Lib.hid hB
  have HN := Lib.hid hn
  have HN1 := Lib.hid hn1
  have HX1 : Hid (∀ W, Below w.heap.size w W → Row W W.heap.size A xs) := Lib.hid fun W hW => (hx1.keep (fun b hb => hW.block b (hZ b hb))).row fun b hb => Nat.lt_of_lt_of_le (hZ b hb) hW.size
  have HX2 := Lib.hid hx2
  have HX3 := Lib.hid hx3
  have HXL : Hid (nL = xs.length) := Lib.hid (by rw [hxl, hn])
  have HZ := Lib.hid hZ
  have HZ2 := Lib.hid hZ2
  have HU := Lib.hid hu
  clear ho q hB hn hn1 hx1 hx2 hx3 hxl hZ hZ2 hu hR k0 k1
  go_enter Try.func28, Try.ntmps28
  go_upto_region 1 with fail
  generalize hb3 : w.heap.size = b3 at d0 d1 HQ ⊢
  have HB3 := Lib.hid hb3
  clear hb3
  generalize w.alloc (.cells cs 69) = w1 at *
  have HLT : Hid (b3 < w1.heap.size) := Lib.hid HQ.out.lt
  cases turn
  · go_upto_region 3 with fail
    clear d1
    refine wp_region_heldG [0, 2, 5, 6] (fun st W => W.cell? ⟨b3, 0, none⟩ = some (.slice A1 m c1)) (by kernel_rfl) ?_
    change wpAnyG _ _ _ _ _ _ 8 _ _ (World.drew _)
    have hS : w1.drew.cell? ⟨b3, 0, none⟩ = some (.slice A1 m c1) := d0
    refine g_take (i := 1) rfl rfl (by kernel_rfl) (by kernel_rfl) (by kernel_rfl) (by kernel_rfl) (by kernel_rfl) (fun _ _ _ h => h) hS (fun L W hL hW => by go_simp; rfl) ?_
    refine g_take (i := 3) rfl rfl (by kernel_rfl) (by kernel_rfl) (by kernel_rfl) (by kernel_rfl) (by kernel_rfl) (fun _ _ _ h => h) hS (fun L W hL hW => by go_simp; rfl) ?_
    refine g_take (i := 4) rfl rfl (by kernel_rfl) (by kernel_rfl) (by kernel_rfl) (by kernel_rfl) (by kernel_rfl) (fun _ _ _ h => h) hS (fun L W hL hW => by go_simp; rfl) ?_
    refine g_two (i := 0) (j := 5) (by kernel_rfl) rfl rfl rfl rfl (fun K hK => ?_) (fun K hK => ?_)
    · obtain ⟨ha, hb⟩ := st_emp w1
      have HWa := Lib.hid ha
      have HO0 := Lib.hid hb
      go_simp
      refine hK _ _ ((ha.cell (p := ⟨b3, 0, none⟩) HLT.out).trans d0) ?_
      clear hK K ha hb hS
      generalize (w1.alloc (.cells #[] 30)).drew = wa at *
      refine g_two (i := 2) (j := 5) (by kernel_rfl) rfl rfl rfl rfl (fun K hK => ?_) (fun K hK => ?_)
      · -- appended, then the row of one
        refine wp_append_row _ (.tmp 10) (.tmp 11) _ rfl w1.heap.size 30 j0 _ 24 Try.underlying22 hj0 hy0 hy1 hy2 rfl _ 0 [] rfl (by exact HO0.out) _ A nL c xs rfl (by exact HXL.out) (by exact HX1.out _ (HB.out.trans (HWa.out.mono HB.out.size))) (by exact HX3.out) (by have := HN1.out; unfold maxLen; omega) (by have := HN1.out; omega) (by exact HWa.out.size) ?_
        intro v4 w4 hown hgrow _ _
        rw [Nat.zero_add, List.nil_append] at hown
        have HW4 : Hid (Below w1.heap.size w1 w4) := Lib.hid (HWa.out.grown hgrow HWa.out.size (fun g hg => (own_row HO0.out hg).1))
        obtain ⟨A4, c4, hv4⟩ := own_form hown
        subst hv4
        have HO4 := Lib.hid hown
        have HFG := Lib.hid (Fr.of_grown (F := fun g => g = w1.heap.size) hgrow (fun g hg => (Option.some.inj (show some _ = some g from hg)).symm))
        refine hK _ _ ((HW4.out.cell (p := ⟨b3, 0, none⟩) HLT.out).trans d0) ?_
        clear hK K hown hgrow
        refine g_one (i := 5) rfl rfl (by kernel_rfl) fun K hK => ?_
        have hb5 := (Below.refl w4.heap.size w4).alloc (Nat.le_refl _) (.cells #[.slice A1 m c1] 30)
        have HW5 : Hid (Below w1.heap.size w1 (w4.alloc (.cells #[.slice A1 m c1] 30))) := Lib.hid (HW4.out.trans (hb5.mono HW4.out.size))
        have Q5 : Hid (Blk (w4.alloc (.cells #[.slice A1 m c1] 30)) w4.heap.size 30 #[.slice A1 m c1]) := Lib.hid (Blk.new_ w4 30 #[.slice A1 m c1] rfl)
        have HO45 := Lib.hid (own_belowT HO4.out hb5)
        go_simp
        refine hK _ _ ((HW5.out.cell (p := ⟨b3, 0, none⟩) HLT.out).trans d0) ?_
        clear hK K hb5 HO4
        have HO4 := HO45
        clear HO45
        generalize w4.alloc (.cells #[.slice A1 m c1] 30) = w5 at *
        refine g_one (i := 6) rfl rfl (by kernel_rfl) fun K hK => ?_
        refine wp_append_row _ (.tmp 12) (.tmp 15) _ rfl w1.heap.size 30 j0 _ 24 Try.underlying22 hj0 hy0 hy1 hy2 rfl _ nL xs rfl (by exact HO4.out) _ (some ⟨w4.heap.size, 0, none⟩) 1 1 [.slice A1 m c1] rfl rfl (by exact Row.blk Q5.out Q5.out.lt) (by intro u hu; simp at hu; subst hu; rfl) (by have := HN1.out; unfold maxLen; omega) (by have := HN1.out; omega) (by exact HW5.out.size) ?_
        intro v6 w6 hown hgrow _ _
        have HW6 : Hid (Below w1.heap.size w1 w6) := Lib.hid (HW5.out.grown hgrow HW5.out.size (fun g hg => (own_row HO4.out hg).1))
        have HE := Lib.hid (behind_end (w1 := w1) HN.out HX2.out HU.out HZ.out HZ2.out (HB.out.trans (HW6.out.mono HB.out.size)) HB.out.size hown)
        have hS6 := ((HW6.out.cell (p := ⟨b3, 0, none⟩) HLT.out).trans d0)
        refine hK _ _ hS6 ?_
        clear hK K hown hgrow
        refine g_take (i := 7) rfl rfl (by kernel_rfl) (by kernel_rfl) (by kernel_rfl) (by kernel_rfl) (by kernel_rfl) (fun _ _ _ h => h) hS6 (fun L W hL hW => by go_simp; rfl) ?_
        refine wpAnyG_done (by kernel_rfl) ?_ _
        obtain ⟨A6, c6, hv6, hE⟩ := HE.out
        subst hv6
        have HE2 := Lib.hid hE
        clear hE HE hS6 d0
        go_wp2_with fail
        go_ret
        rw [← HOut.out]
        exact HE2.out
      · -- the row of one, then appended
        have hne : ¬ wa.heap.size = w1.heap.size := by obtain ⟨-, cs', hq⟩ := own_row HO0.out (g := w1.heap.size) rfl; exact Nat.ne_of_gt hq.lt
        have hb5 := (Below.refl wa.heap.size wa).alloc (Nat.le_refl _) (.cells #[.slice A1 m c1] 30)
        have HW5 : Hid (Below w1.heap.size w1 (wa.alloc (.cells #[.slice A1 m c1] 30))) := Lib.hid (HWa.out.trans (hb5.mono HWa.out.size))
        have Q5 : Hid (Blk (wa.alloc (.cells #[.slice A1 m c1] 30)) wa.heap.size 30 #[.slice A1 m c1]) := Lib.hid (Blk.new_ wa 30 #[.slice A1 m c1] rfl)
        have HO05 := Lib.hid (own_belowT HO0.out hb5)
        go_simp
        refine hK _ _ ((HW5.out.cell (p := ⟨b3, 0, none⟩) HLT.out).trans d0) ?_
        clear hK K hb5 HO0
        have HO0 := HO05
        clear HO05
        generalize wa.alloc (.cells #[.slice A1 m c1] 30) = wb at *
        refine g_one (i := 2) rfl rfl (by kernel_rfl) fun K hK => ?_
        refine wp_append_row _ (.tmp 10) (.tmp 11) _ rfl w1.heap.size 30 j0 _ 24 Try.underlying22 hj0 hy0 hy1 hy2 rfl _ 0 [] rfl (by exact HO0.out) _ A nL c xs rfl (by exact HXL.out) (by exact HX1.out _ (HB.out.trans (HW5.out.mono HB.out.size))) (by exact HX3.out) (by have := HN1.out; unfold maxLen; omega) (by have := HN1.out; omega) (by exact HW5.out.size) ?_
        intro v4 w4 hown hgrow _ _
        rw [Nat.zero_add, List.nil_append] at hown
        have HW4 : Hid (Below w1.heap.size w1 w4) := Lib.hid (HW5.out.grown hgrow HW5.out.size (fun g hg => (own_row HO0.out hg).1))
        obtain ⟨A4, c4, hv4⟩ := own_form hown
        subst hv4
        have HO4 := Lib.hid hown
        have HFG := Lib.hid (Fr.of_grown (F := fun g => g = w1.heap.size) hgrow (fun g hg => (Option.some.inj (show some _ = some g from hg)).symm))
        refine hK _ _ ((HW4.out.cell (p := ⟨b3, 0, none⟩) HLT.out).trans d0) ?_
        clear hK K hown hgrow
        have Q6 := Lib.hid (Q5.out.fr HFG.out hne)
        refine g_one (i := 6) rfl rfl (by kernel_rfl) fun K hK => ?_
        refine wp_append_row _ (.tmp 12) (.tmp 15) _ rfl w1.heap.size 30 j0 _ 24 Try.underlying22 hj0 hy0 hy1 hy2 rfl _ nL xs rfl (by exact HO4.out) _ (some ⟨wa.heap.size, 0, none⟩) 1 1 [.slice A1 m c1] rfl rfl (by exact Row.blk Q6.out Q6.out.lt) (by intro u hu; simp at hu; subst hu; rfl) (by have := HN1.out; unfold maxLen; omega) (by have := HN1.out; omega) (by exact HW4.out.size) ?_
        intro v6 w6 hown hgrow _ _
        have HW6 : Hid (Below w1.heap.size w1 w6) := Lib.hid (HW4.out.grown hgrow HW4.out.size (fun g hg => (own_row HO4.out hg).1))
        have HE := Lib.hid (behind_end (w1 := w1) HN.out HX2.out HU.out HZ.out HZ2.out (HB.out.trans (HW6.out.mono HB.out.size)) HB.out.size hown)
        have hS6 := ((HW6.out.cell (p := ⟨b3, 0, none⟩) HLT.out).trans d0)
        refine hK _ _ hS6 ?_
        clear hK K hown hgrow
        refine g_take (i := 7) rfl rfl (by kernel_rfl) (by kernel_rfl) (by kernel_rfl) (by kernel_rfl) (by kernel_rfl) (fun _ _ _ h => h) hS6 (fun L W hL hW => by go_simp; rfl) ?_
        refine wpAnyG_done (by kernel_rfl) ?_ _
        obtain ⟨A6, c6, hv6, hE⟩ := HE.out
        subst hv6
        have HE2 := Lib.hid hE
        clear hE HE hS6 d0
        go_wp2_with fail
        go_ret
        rw [← HOut.out]
        exact HE2.out
    · obtain ⟨ha, hb⟩ := st_one w1 (.slice A1 m c1)
      have HWa := Lib.hid ha
      have Q5 := Lib.hid hb
      go_simp
      refine hK _ _ ((ha.cell (p := ⟨b3, 0, none⟩) HLT.out).trans d0) ?_
      clear hK K ha hb hS
      generalize (w1.alloc (.cells #[.slice A1 m c1] 30)).drew = wa at *
      refine g_one (i := 0) rfl rfl (by kernel_rfl) fun K hK => ?_
      have hb0 := (Below.refl wa.heap.size wa).alloc (Nat.le_refl _) (.cells #[] 30)
      have HWb : Hid (Below w1.heap.size w1 (wa.alloc (.cells #[] 30))) := Lib.hid (HWa.out.trans (hb0.mono HWa.out.size))
      have HO0 := Lib.hid (own_empty wa 30 HWa.out.size)
      have Q5b := Lib.hid (Q5.out.below hb0 Q5.out.lt)
      have hne : ¬ w1.heap.size = wa.heap.size := Nat.ne_of_lt Q5.out.lt
      go_simp
      refine hK _ _ ((HWb.out.cell (p := ⟨b3, 0, none⟩) HLT.out).trans d0) ?_
      clear hK K hb0 Q5
      generalize wa.alloc (.cells #[] 30) = wb at *
      refine g_one (i := 2) rfl rfl (by kernel_rfl) fun K hK => ?_
      refine wp_append_row _ (.tmp 10) (.tmp 11) _ rfl w1.heap.size 30 j0 _ 24 Try.underlying22 hj0 hy0 hy1 hy2 rfl _ 0 [] rfl (by exact HO0.out) _ A nL c xs rfl (by exact HXL.out) (by exact HX1.out _ (HB.out.trans (HWb.out.mono HB.out.size))) (by exact HX3.out) (by have := HN1.out; unfold maxLen; omega) (by have := HN1.out; omega) (by exact HWb.out.size) ?_
      intro v4 w4 hown hgrow _ _
      rw [Nat.zero_add, List.nil_append] at hown
      have HW4 : Hid (Below w1.heap.size w1 w4) := Lib.hid (HWb.out.grown hgrow HWb.out.size (fun g hg => (own_row HO0.out hg).1))
      obtain ⟨A4, c4, hv4⟩ := own_form hown
      subst hv4
      have HO4 := Lib.hid hown
      have HFG := Lib.hid (Fr.of_grown (F := fun g => g = wa.heap.size) hgrow (fun g hg => (Option.some.inj (show some _ = some g from hg)).symm))
      refine hK _ _ ((HW4.out.cell (p := ⟨b3, 0, none⟩) HLT.out).trans d0) ?_
      clear hK K hown hgrow
      have Q6 := Lib.hid (Q5b.out.fr HFG.out hne)
      refine g_one (i := 6) rfl rfl (by kernel_rfl) fun K hK => ?_
      refine wp_append_row _ (.tmp 12) (.tmp 15) _ rfl w1.heap.size 30 j0 _ 24 Try.underlying22 hj0 hy0 hy1 hy2 rfl _ nL xs rfl (by exact HO4.out) _ (some ⟨w1.heap.size, 0, none⟩) 1 1 [.slice A1 m c1] rfl rfl (by exact Row.blk Q6.out Q6.out.lt) (by intro u hu; simp at hu; subst hu; rfl) (by have := HN1.out; unfold maxLen; omega) (by have := HN1.out; omega) (by exact HW4.out.size) ?_
      intro v6 w6 hown hgrow _ _
      have HW6 : Hid (Below w1.heap.size w1 w6) := Lib.hid (HW4.out.grown hgrow HW4.out.size (fun g hg => (own_row HO4.out hg).1))
      have HE := Lib.hid (behind_end (w1 := w1) HN.out HX2.out HU.out HZ.out HZ2.out (HB.out.trans (HW6.out.mono HB.out.size)) HB.out.size hown)
      have hS6 := ((HW6.out.cell (p := ⟨b3, 0, none⟩) HLT.out).trans d0)
      refine hK _ _ hS6 ?_
      clear hK K hown hgrow
      refine g_take (i := 7) rfl rfl (by kernel_rfl) (by kernel_rfl) (by kernel_rfl) (by kernel_rfl) (by kernel_rfl) (fun _ _ _ h => h) hS6 (fun L W hL hW => by go_simp; rfl) ?_
      refine wpAnyG_done (by kernel_rfl) ?_ _
      obtain ⟨A6, c6, hv6, hE⟩ := HE.out
      subst hv6
      have HE2 := Lib.hid hE
      clear hE HE hS6 d0
      go_wp2_with fail
      go_ret
      rw [← HOut.out]
      exact HE2.out
  · have hb := (Below.refl w1.heap.size w1).alloc (Nat.le_refl _) (.cells #[.slice A1 m c1] 30)
    have q9 := Blk.new_ w1 30 #[.slice A1 m c1] rfl
    have HB9 := Lib.hid (HB.out.trans (hb.mono HB.out.size))
    have HR9 : Hid (RowZ (w1.alloc (.cells #[.slice A1 m c1] 30)) (fun b => b = w1.heap.size) (some ⟨w1.heap.size, 0, none⟩) [.slice A1 m c1]) := Lib.hid (fun j hj => by
      have : j = 0 := by simpa using hj
      subst this
      exact ⟨w1.heap.size, 0, rfl, rfl, Blk.at_ q9 0 rfl⟩)
    have HLT9 : Hid (w1.heap.size < (w1.alloc (.cells #[.slice A1 m c1] 30)).heap.size) := Lib.hid (by simp)
    clear hb q9
    go_wp2_with fail
    rw [← HOut.out]
    refine ⟨some ⟨w1.heap.size, 0, none⟩, 1, fun b => Z2 b ∨ b = w1.heap.size, rfl, Nat.le_refl _, by simp [maxLen], ?_, ?_, ?_, HB9.out⟩
    · refine Reads3Z.rows (xs := [.slice A1 m c1]) ⟨rfl, fun j hj => ?_⟩ (HR9.out.more fun b h => .inr h)
      have : j = 0 := by simpa [behindL] using hj
      subst this
      exact ⟨_, rfl, (HU.out.keep fun b hb => HB9.out.block b (HZ2.out b hb)).more fun b h => .inl h⟩
    · rintro b (h | h)
      · exact .inr (.inl h)
      · exact .inr (.inr (by rw [h]; exact HB.out.size))
    · rintro b (h | h)
      · exact Nat.lt_of_lt_of_le (HZ2.out b h) HB9.out.size
      · rw [h]; exact HLT9.out
end Go.Proofs.Ytmkijkkddoamgaa.Jo
