/-
  The walk of Cut.
-/
import Derived.Test.YtclbpohhmaojcaaGraphPutE
namespace Go.Proofs.Ytclbpohhmaojcaa.GrW
set_option linter.unusedVariables false
open Go Go.RowKit Go.Proofs Go.Proofs.Ytclbpohhmaojcaa Go.Proofs.Ytclbpohhmaojcaa.Wd

set_option maxRecDepth 100000 in
set_option maxHeartbeats 4000000 in
theorem cutE_any (w : World) (base g n : Nat) (F : Nat → Prop) (L : List (List Int)) (h : GAt w base F g n L) (hr : Rises L) (hbase : base ≤ w.heap.size) (k m : Nat) (hk : k < n) (hm : m < n) :
    Calls Try.prog 23 #[.pointer (some ⟨g, 0, none⟩), .int .i64 k, .int .i64 m] w fun e w' => ∃ F', e = .returned (.bool ((L.getD (2 * k) []).contains (m : Int))) ∧ GAt w' base F' g n ((L.set (2 * k) (rem (L.getD (2 * k) []) m)).set (2 * m + 1) (rem (L.getD (2 * m + 1) []) k)) ∧ Fr F w w' ∧ ∀ j, F' j → F j ∨ w.heap.size ≤ j := by
  obtain ⟨r, c, hH, hst⟩ := h.store
  obtain ⟨A, d, hc, hi, hs⟩ := hst (2 * k) (by omega)
  have ra := hr.at_ (2 * k)
  have rb := hr.at_ (2 * m + 1)
  clear hst
  generalize hlk : L.getD (2 * k) [] = lk at *
  generalize hlm : L.getD (2 * m + 1) [] = lm at *
  generalize hbk : lk.contains (m : Int) = bk at *
  have HU := Lib.hid (is_any w g r n c hH (k : Int))
  have HV := Lib.hid (is_any w g r n c hH (m : Int))
  rw [show isV n (k : Int) = true by unfold isV; simp; omega] at HU
  rw [show isV n (m : Int) = true by unfold isV; simp; omega] at HV
  have hc2 : w.cell? ⟨r, k * 2, none⟩ = some (.slice A lk.length d) := by rw [Nat.mul_comm k 2]; exact hc
  have HP := Lib.hid (cut_any w.drew base _ _ hi ra.2 ra.1 (m : Int))
  rw [hbk] at HP
  have HS := Lib.hid hs
  have HH := Lib.hid hH
  have HC := Lib.hid hc2
  have i1 : (0 : Int) ≤ (k : Int) := by omega
  have i2 : (k : Int) < (n : Int) := by omega
  have i3 : (0 : Int) ≤ (m : Int) := by omega
  have i4 : (m : Int) < (n : Int) := by omega
  have HLM := Lib.hid hlm
  have HRB := Lib.hid rb
  clear hs hc hc2 hi hH h ra rb hlk hlm hbk
  go_enter Try.func23, Try.ntmps23
  go_wp2_with fail
  refine Calls.mono HU.out ?_
  rintro e w' ⟨rfl, rfl⟩
  clear HU
  go_wp2_with fail
  refine Calls.mono HV.out ?_
  rintro e w' ⟨rfl, rfl⟩
  clear HV
  go_wp2_with fail
  refine wp_region_heldG [20] (fun cc W => Head W g (.slice (some ⟨r, 0, none⟩) n c) ∧ (cc 20 = true ∨ W.cell? ⟨r, k * 2, none⟩ = some (.slice A lk.length d))) (by kernel_rfl) ?_
  change wpAnyG _ _ _ _ _ _ 22 _ _ w.drew
  · have hS : Head w.drew g (.slice (some ⟨r, 0, none⟩) n c) ∧ ((false = true) ∨ w.drew.cell? ⟨r, k * 2, none⟩ = some (.slice A lk.length d)) := ⟨HH.out, .inr HC.out⟩
    refine g_take (i := 0) rfl rfl (by kernel_rfl) (by kernel_rfl) (by kernel_rfl) (by kernel_rfl) (by kernel_rfl) (fun _ _ _ h => h) ⟨hS.1, .inr (hS.2.resolve_left (by simp))⟩ (fun L W hL hW => by go_simp; rfl) ?_
    refine g_take (i := 1) rfl rfl (by kernel_rfl) (by kernel_rfl) (by kernel_rfl) (by kernel_rfl) (by kernel_rfl) (fun _ _ _ h => h) ⟨hS.1, .inr (hS.2.resolve_left (by simp))⟩ (fun L W hL hW => by go_simp; rfl) ?_
    refine g_take (i := 2) rfl rfl (by kernel_rfl) (by kernel_rfl) (by kernel_rfl) (by kernel_rfl) (by kernel_rfl) (fun _ _ _ h => h) ⟨hS.1, .inr (hS.2.resolve_left (by simp))⟩ (fun L W hL hW => by go_simp; rfl) ?_
    refine g_take (i := 3) rfl rfl (by kernel_rfl) (by kernel_rfl) (by kernel_rfl) (by kernel_rfl) (by kernel_rfl) (fun _ _ _ h => h) ⟨hS.1, .inr (hS.2.resolve_left (by simp))⟩ (fun L W hL hW => by obtain ⟨⟨q0, q1⟩, -⟩ := hW; go_simp; rfl) ?_
    refine g_take (i := 4) rfl rfl (by kernel_rfl) (by kernel_rfl) (by kernel_rfl) (by kernel_rfl) (by kernel_rfl) (fun _ _ _ h => h) ⟨hS.1, .inr (hS.2.resolve_left (by simp))⟩ (fun L W hL hW => by go_simp; rfl) ?_
    refine g_take (i := 5) rfl rfl (by kernel_rfl) (by kernel_rfl) (by kernel_rfl) (by kernel_rfl) (by kernel_rfl) (fun _ _ _ h => h) ⟨hS.1, .inr (hS.2.resolve_left (by simp))⟩ (fun L W hL hW => by go_simp; rfl) ?_
    refine g_take (i := 6) rfl rfl (by kernel_rfl) (by kernel_rfl) (by kernel_rfl) (by kernel_rfl) (by kernel_rfl) (fun _ _ _ h => h) ⟨hS.1, .inr (hS.2.resolve_left (by simp))⟩ (fun L W hL hW => by go_simp; rfl) ?_
    refine g_take (i := 7) rfl rfl (by kernel_rfl) (by kernel_rfl) (by kernel_rfl) (by kernel_rfl) (by kernel_rfl) (fun _ _ _ h => h) ⟨hS.1, .inr (hS.2.resolve_left (by simp))⟩ (fun L W hL hW => by go_simp; rfl) ?_
    refine g_take (i := 8) rfl rfl (by kernel_rfl) (by kernel_rfl) (by kernel_rfl) (by kernel_rfl) (by kernel_rfl) (fun _ _ _ h => h) ⟨hS.1, .inr (hS.2.resolve_left (by simp))⟩ (fun L W hL hW => by obtain ⟨⟨q0, q1⟩, -⟩ := hW; go_simp; rfl) ?_
    refine g_take (i := 9) rfl rfl (by kernel_rfl) (by kernel_rfl) (by kernel_rfl) (by kernel_rfl) (by kernel_rfl) (fun _ _ _ h => h) ⟨hS.1, .inr (hS.2.resolve_left (by simp))⟩ (fun L W hL hW => by go_simp; rfl) ?_
    refine g_take (i := 10) rfl rfl (by kernel_rfl) (by kernel_rfl) (by kernel_rfl) (by kernel_rfl) (by kernel_rfl) (fun _ _ _ h => h) ⟨hS.1, .inr (hS.2.resolve_left (by simp))⟩ (fun L W hL hW => by go_simp; rfl) ?_
    refine g_take (i := 11) rfl rfl (by kernel_rfl) (by kernel_rfl) (by kernel_rfl) (by kernel_rfl) (by kernel_rfl) (fun _ _ _ h => h) ⟨hS.1, .inr (hS.2.resolve_left (by simp))⟩ (fun L W hL hW => by go_simp; rfl) ?_
    refine g_take (i := 12) rfl rfl (by kernel_rfl) (by kernel_rfl) (by kernel_rfl) (by kernel_rfl) (by kernel_rfl) (fun _ _ _ h => h) ⟨hS.1, .inr (hS.2.resolve_left (by simp))⟩ (fun L W hL hW => by obtain ⟨⟨q0, q1⟩, q2⟩ := hW; have q3 := q2.resolve_left (by simp [came, hL 20 (by kernel_rfl)]); go_simp; rfl) ?_
    refine g_take (i := 13) rfl rfl (by kernel_rfl) (by kernel_rfl) (by kernel_rfl) (by kernel_rfl) (by kernel_rfl) (fun _ _ _ h => h) ⟨hS.1, .inr (hS.2.resolve_left (by simp))⟩ (fun L W hL hW => by go_simp; rfl) ?_
    refine g_one (i := 14) rfl rfl (by kernel_rfl) fun K hK => ?_
    go_simp
    refine Calls.mono HP.out ?_
    rintro e w2 ⟨v', rfl, hr2, hg2, ho2⟩
    obtain ⟨A2, d2, hv2⟩ := hr2.lies
    subst hv2
    have hT := HS.out w2 _ _ hr2 (grown_ahead hg2) ho2
    have hH2 := hT.1.1
    have HH3 : Hid (Head (w2.setCell ⟨r, k * 2, none⟩ (.slice A2 (rem lk m).length d2)) g (.slice (some ⟨r, 0, none⟩) n c)) := Lib.hid (by rw [Nat.mul_comm k 2]; exact hT.1.2)
    have hc2 : w2.cell? ⟨r, k * 2, none⟩ = some (.slice A lk.length d) := by rw [Nat.mul_comm k 2]; exact hT.2.1
    have hz2 : w2.frozen? ⟨r, k * 2, none⟩ = false := by rw [Nat.mul_comm k 2]; exact hT.2.2.1
    have HT : Hid (GAt (w2.setCell ⟨r, k * 2, none⟩ (.slice A2 (rem lk m).length d2)) base (fun j => F j ∨ w.heap.size ≤ j) g n (L.set (2 * k) (rem lk m)) ∧ Fr F w (w2.setCell ⟨r, k * 2, none⟩ (.slice A2 (rem lk m).length d2))) := Lib.hid (by rw [Nat.mul_comm k 2]; exact hT.2.2.2)
    have HC2 := Lib.hid hc2
    have HZ2 := Lib.hid hz2
    have hS2 : Head w2 g (.slice (some ⟨r, 0, none⟩) n c) ∧ ((false = true) ∨ w2.cell? ⟨r, k * 2, none⟩ = some (.slice A lk.length d)) := ⟨hH2, .inr hc2⟩
    clear hT hr2 hg2 ho2 hc2 hz2
    refine hK _ _ ⟨hS2.1, .inr (hS2.2.resolve_left (by simp))⟩ ?_
    clear hK K
    refine g_take (i := 15) rfl rfl (by kernel_rfl) (by kernel_rfl) (by kernel_rfl) (by kernel_rfl) (by kernel_rfl) (fun _ _ _ h => h) ⟨hS2.1, .inr (hS2.2.resolve_left (by simp))⟩ (fun L W hL hW => by go_simp; rfl) ?_
    refine g_take (i := 16) rfl rfl (by kernel_rfl) (by kernel_rfl) (by kernel_rfl) (by kernel_rfl) (by kernel_rfl) (fun _ _ _ h => h) ⟨hS2.1, .inr (hS2.2.resolve_left (by simp))⟩ (fun L W hL hW => by go_simp; rfl) ?_
    refine g_take (i := 17) rfl rfl (by kernel_rfl) (by kernel_rfl) (by kernel_rfl) (by kernel_rfl) (by kernel_rfl) (fun _ _ _ h => h) ⟨hS2.1, .inr (hS2.2.resolve_left (by simp))⟩ (fun L W hL hW => by go_simp; rfl) ?_
    refine g_take (i := 18) rfl rfl (by kernel_rfl) (by kernel_rfl) (by kernel_rfl) (by kernel_rfl) (by kernel_rfl) (fun _ _ _ h => h) ⟨hS2.1, .inr (hS2.2.resolve_left (by simp))⟩ (fun L W hL hW => by go_simp; rfl) ?_
    refine g_take (i := 19) rfl rfl (by kernel_rfl) (by kernel_rfl) (by kernel_rfl) (by kernel_rfl) (by kernel_rfl) (fun _ _ _ h => h) ⟨hS2.1, .inr (hS2.2.resolve_left (by simp))⟩ (fun L W hL hW => by go_simp; rfl) ?_
    refine g_one (i := 20) rfl rfl (by kernel_rfl) fun K hK => ?_
    have hc2 := HC2.out
    have hz2 := HZ2.out
    go_simp
    have hS3 : Head (w2.setCell ⟨r, k * 2, none⟩ (.slice A2 (rem lk m).length d2)) g (.slice (some ⟨r, 0, none⟩) n c) := HH3.out
    refine hK _ _ ⟨hS3, .inl (by simp [came])⟩ ?_
    clear hK K hc2 hz2
    refine g_take (i := 21) rfl rfl (by kernel_rfl) (by kernel_rfl) (by kernel_rfl) (by kernel_rfl) (by kernel_rfl) (fun _ _ _ h => h) ⟨hS3, .inl (by simp [came])⟩ (fun L W hL hW => by go_simp; rfl) ?_
    refine wpAnyG_done (by kernel_rfl) ?_ _
    clear hS hS2 hS3 HC2 HZ2 HH3 HS HP HC HH
    go_simp
    obtain ⟨hG3, hF3⟩ := HT.out
    clear HT
    generalize w2.setCell ⟨r, k * 2, none⟩ (.slice A2 (rem lk m).length d2) = w3 at *
    obtain ⟨r', c', hH', hst'⟩ := hG3.store
    obtain ⟨A', d', hc', hi', hs'⟩ := hst' (2 * m + 1) (by omega)
    have el : (L.set (2 * k) (rem lk m)).getD (2 * m + 1) [] = lm := by
      rw [← HLM.out]
      simp only [List.getD]
      rw [List.getElem?_set_ne (by omega)]
    rw [el] at hc' hi' hs'
    have hcm : w3.cell? ⟨r', m * 2 + 1, none⟩ = some (.slice A' lm.length d') := by rw [Nat.mul_comm m 2]; exact hc'
    have HP' := Lib.hid (cut_any w3.drew base _ _ hi' HRB.out.2 HRB.out.1 (k : Int))
    generalize lm.contains (k : Int) = bm at *
    have HS' := Lib.hid hs'
    have HH' := Lib.hid hH'
    have HC' := Lib.hid hcm
    have HF3 := Lib.hid hF3
    clear hst' hs' hc' hcm hi' hH' hG3 hF3 el
    go_wp2_with fail
    refine wp_region_heldG [20] (fun cc W => Head W g (.slice (some ⟨r', 0, none⟩) n c') ∧ (cc 20 = true ∨ W.cell? ⟨r', m * 2 + 1, none⟩ = some (.slice A' lm.length d'))) (by kernel_rfl) ?_
    change wpAnyG _ _ _ _ _ _ 21 _ _ w3.drew
    have hS : Head w3.drew g (.slice (some ⟨r', 0, none⟩) n c') ∧ ((false = true) ∨ w3.drew.cell? ⟨r', m * 2 + 1, none⟩ = some (.slice A' lm.length d')) := ⟨HH'.out, .inr HC'.out⟩
    refine g_take (i := 0) rfl rfl (by kernel_rfl) (by kernel_rfl) (by kernel_rfl) (by kernel_rfl) (by kernel_rfl) (fun _ _ _ h => h) ⟨hS.1, .inr (hS.2.resolve_left (by simp))⟩ (fun L W hL hW => by go_simp; rfl) ?_
    refine g_take (i := 1) rfl rfl (by kernel_rfl) (by kernel_rfl) (by kernel_rfl) (by kernel_rfl) (by kernel_rfl) (fun _ _ _ h => h) ⟨hS.1, .inr (hS.2.resolve_left (by simp))⟩ (fun L W hL hW => by go_simp; rfl) ?_
    refine g_take (i := 2) rfl rfl (by kernel_rfl) (by kernel_rfl) (by kernel_rfl) (by kernel_rfl) (by kernel_rfl) (fun _ _ _ h => h) ⟨hS.1, .inr (hS.2.resolve_left (by simp))⟩ (fun L W hL hW => by go_simp; rfl) ?_
    refine g_take (i := 3) rfl rfl (by kernel_rfl) (by kernel_rfl) (by kernel_rfl) (by kernel_rfl) (by kernel_rfl) (fun _ _ _ h => h) ⟨hS.1, .inr (hS.2.resolve_left (by simp))⟩ (fun L W hL hW => by obtain ⟨⟨q0, q1⟩, -⟩ := hW; go_simp; rfl) ?_
    refine g_take (i := 4) rfl rfl (by kernel_rfl) (by kernel_rfl) (by kernel_rfl) (by kernel_rfl) (by kernel_rfl) (fun _ _ _ h => h) ⟨hS.1, .inr (hS.2.resolve_left (by simp))⟩ (fun L W hL hW => by go_simp; rfl) ?_
    refine g_take (i := 5) rfl rfl (by kernel_rfl) (by kernel_rfl) (by kernel_rfl) (by kernel_rfl) (by kernel_rfl) (fun _ _ _ h => h) ⟨hS.1, .inr (hS.2.resolve_left (by simp))⟩ (fun L W hL hW => by go_simp; rfl) ?_
    refine g_take (i := 6) rfl rfl (by kernel_rfl) (by kernel_rfl) (by kernel_rfl) (by kernel_rfl) (by kernel_rfl) (fun _ _ _ h => h) ⟨hS.1, .inr (hS.2.resolve_left (by simp))⟩ (fun L W hL hW => by go_simp; rfl) ?_
    refine g_take (i := 7) rfl rfl (by kernel_rfl) (by kernel_rfl) (by kernel_rfl) (by kernel_rfl) (by kernel_rfl) (fun _ _ _ h => h) ⟨hS.1, .inr (hS.2.resolve_left (by simp))⟩ (fun L W hL hW => by go_simp; rfl) ?_
    refine g_take (i := 8) rfl rfl (by kernel_rfl) (by kernel_rfl) (by kernel_rfl) (by kernel_rfl) (by kernel_rfl) (fun _ _ _ h => h) ⟨hS.1, .inr (hS.2.resolve_left (by simp))⟩ (fun L W hL hW => by obtain ⟨⟨q0, q1⟩, -⟩ := hW; go_simp; rfl) ?_
    refine g_take (i := 9) rfl rfl (by kernel_rfl) (by kernel_rfl) (by kernel_rfl) (by kernel_rfl) (by kernel_rfl) (fun _ _ _ h => h) ⟨hS.1, .inr (hS.2.resolve_left (by simp))⟩ (fun L W hL hW => by go_simp; rfl) ?_
    refine g_take (i := 10) rfl rfl (by kernel_rfl) (by kernel_rfl) (by kernel_rfl) (by kernel_rfl) (by kernel_rfl) (fun _ _ _ h => h) ⟨hS.1, .inr (hS.2.resolve_left (by simp))⟩ (fun L W hL hW => by go_simp; rfl) ?_
    refine g_take (i := 11) rfl rfl (by kernel_rfl) (by kernel_rfl) (by kernel_rfl) (by kernel_rfl) (by kernel_rfl) (fun _ _ _ h => h) ⟨hS.1, .inr (hS.2.resolve_left (by simp))⟩ (fun L W hL hW => by go_simp; rfl) ?_
    refine g_take (i := 12) rfl rfl (by kernel_rfl) (by kernel_rfl) (by kernel_rfl) (by kernel_rfl) (by kernel_rfl) (fun _ _ _ h => h) ⟨hS.1, .inr (hS.2.resolve_left (by simp))⟩ (fun L W hL hW => by obtain ⟨⟨q0, q1⟩, q2⟩ := hW; have q3 := q2.resolve_left (by simp [came, hL 20 (by kernel_rfl)]); go_simp; rfl) ?_
    refine g_take (i := 13) rfl rfl (by kernel_rfl) (by kernel_rfl) (by kernel_rfl) (by kernel_rfl) (by kernel_rfl) (fun _ _ _ h => h) ⟨hS.1, .inr (hS.2.resolve_left (by simp))⟩ (fun L W hL hW => by go_simp; rfl) ?_
    refine g_one (i := 14) rfl rfl (by kernel_rfl) fun K hK => ?_
    go_simp
    refine Calls.mono HP'.out ?_
    rintro e w4 ⟨v', rfl, hr2, hg2, ho2⟩
    obtain ⟨A4, d4, hv2⟩ := hr2.lies
    subst hv2
    have hT := HS'.out w4 _ _ hr2 (grown_ahead hg2) ho2
    have hH2 := hT.1.1
    have HH3 : Hid (Head (w4.setCell ⟨r', m * 2 + 1, none⟩ (.slice A4 (rem lm k).length d4)) g (.slice (some ⟨r', 0, none⟩) n c')) := Lib.hid (by rw [Nat.mul_comm m 2]; exact hT.1.2)
    have hc2 : w4.cell? ⟨r', m * 2 + 1, none⟩ = some (.slice A' lm.length d') := by rw [Nat.mul_comm m 2]; exact hT.2.1
    have hz2 : w4.frozen? ⟨r', m * 2 + 1, none⟩ = false := by rw [Nat.mul_comm m 2]; exact hT.2.2.1
    have HT : Hid (GAt (w4.setCell ⟨r', m * 2 + 1, none⟩ (.slice A4 (rem lm k).length d4)) base (fun j => (F j ∨ w.heap.size ≤ j) ∨ w3.heap.size ≤ j) g n ((L.set (2 * k) (rem lk m)).set (2 * m + 1) (rem lm k)) ∧ Fr (fun j => F j ∨ w.heap.size ≤ j) w3 (w4.setCell ⟨r', m * 2 + 1, none⟩ (.slice A4 (rem lm k).length d4))) := Lib.hid (by rw [Nat.mul_comm m 2]; exact hT.2.2.2)
    have HC2 := Lib.hid hc2
    have HZ2 := Lib.hid hz2
    have hS2 : Head w4 g (.slice (some ⟨r', 0, none⟩) n c') ∧ ((false = true) ∨ w4.cell? ⟨r', m * 2 + 1, none⟩ = some (.slice A' lm.length d')) := ⟨hH2, .inr hc2⟩
    clear hT hr2 hg2 ho2 hc2 hz2
    refine hK _ _ ⟨hS2.1, .inr (hS2.2.resolve_left (by simp))⟩ ?_
    clear hK K
    refine g_take (i := 15) rfl rfl (by kernel_rfl) (by kernel_rfl) (by kernel_rfl) (by kernel_rfl) (by kernel_rfl) (fun _ _ _ h => h) ⟨hS2.1, .inr (hS2.2.resolve_left (by simp))⟩ (fun L W hL hW => by go_simp; rfl) ?_
    refine g_take (i := 16) rfl rfl (by kernel_rfl) (by kernel_rfl) (by kernel_rfl) (by kernel_rfl) (by kernel_rfl) (fun _ _ _ h => h) ⟨hS2.1, .inr (hS2.2.resolve_left (by simp))⟩ (fun L W hL hW => by go_simp; rfl) ?_
    refine g_take (i := 17) rfl rfl (by kernel_rfl) (by kernel_rfl) (by kernel_rfl) (by kernel_rfl) (by kernel_rfl) (fun _ _ _ h => h) ⟨hS2.1, .inr (hS2.2.resolve_left (by simp))⟩ (fun L W hL hW => by go_simp; rfl) ?_
    refine g_take (i := 18) rfl rfl (by kernel_rfl) (by kernel_rfl) (by kernel_rfl) (by kernel_rfl) (by kernel_rfl) (fun _ _ _ h => h) ⟨hS2.1, .inr (hS2.2.resolve_left (by simp))⟩ (fun L W hL hW => by go_simp; rfl) ?_
    refine g_take (i := 19) rfl rfl (by kernel_rfl) (by kernel_rfl) (by kernel_rfl) (by kernel_rfl) (by kernel_rfl) (fun _ _ _ h => h) ⟨hS2.1, .inr (hS2.2.resolve_left (by simp))⟩ (fun L W hL hW => by go_simp; rfl) ?_
    refine g_one (i := 20) rfl rfl (by kernel_rfl) fun K hK => ?_
    have hc2 := HC2.out
    have hz2 := HZ2.out
    go_simp
    refine hK _ _ ⟨HH3.out, .inl (by simp [came])⟩ ?_
    clear hK K hc2 hz2
    refine wpAnyG_done (by kernel_rfl) ?_ _
    have HFIN := Lib.hid (show ∃ F', GAt (w4.setCell ⟨r', m * 2 + 1, none⟩ (.slice A4 (rem lm k).length d4)) base F' g n ((L.set (2 * k) (rem lk m)).set (2 * m + 1) (rem lm k)) ∧ Fr F w (w4.setCell ⟨r', m * 2 + 1, none⟩ (.slice A4 (rem lm k).length d4)) ∧ ∀ j, F' j → F j ∨ w.heap.size ≤ j from
      ⟨_, HT.out.1, HF3.out.trans HT.out.2 (fun j hj hf => hf.resolve_right (by omega)), fun j hj => hj.elim id (fun h => .inr (Nat.le_trans HF3.out.size h))⟩)
    clear hS hS2 HC2 HZ2 HH3 HS' HP' HC' HH' HT HF3
    go_simp
    go_wp2_with fail
    go_ret
    obtain ⟨F', q1, q2, q3⟩ := HFIN.out
    exact ⟨F', rfl, q1, q2, q3⟩
end Go.Proofs.Ytclbpohhmaojcaa.GrW
