/-
  The walk of Copy.
-/
import Derived.Test.YtclbpohhmaojcaaGraphCopy0
namespace Go.Proofs.Ytclbpohhmaojcaa.GrW
set_option linter.unusedVariables false
open Go Go.RowKit Go.Proofs Go.Proofs.Ytclbpohhmaojcaa Go.Proofs.Ytclbpohhmaojcaa.Wd

/-- While a graph is copied: the first k vertices have rows of their own. -/
structure CS (w0 w : World) (base n g2 r2 c2 : Nat) (cur : Array Value) (L : List (List Int)) (k : Nat) : Prop where
  low : Below w0.heap.size w0 w
  gblk : Blk w g2 65 #[.bool true, .slice (some ⟨r2, 0, none⟩) n c2]
  gfar : w0.heap.size ≤ g2
  rfar : w0.heap.size ≤ r2
  lies : Lies w0 w base r2 n c2 cur L k
  row : ∀ i, i < 2 * k → ∃ v, cur[i]? = some v ∧ IRow w w0.heap.size v (L.getD i [])
  apart : ∀ i j v u q, i ≠ j → i < 2 * k → j < 2 * k → cur[i]? = some v → cur[j]? = some u → v.ownBlock = some q → u.ownBlock ≠ some q
theorem CS.done {w0 w : World} {base n g2 r2 c2 : Nat} {cur : Array Value} {L : List (List Int)} (h : CS w0 w base n g2 r2 c2 cur L n) : GAt w w0.heap.size (fun k => w0.heap.size ≤ k) g2 n L := by
  have hrow : ∀ i (hi : i < L.length), ∃ v, cur[i]? = some v ∧ IRow w w0.heap.size v L[i] := fun i hi => by
    obtain ⟨v, h1, h2⟩ := h.row i (by have := h.lies.len; omega)
    refine ⟨v, h1, ?_⟩
    have e : L.getD i [] = L[i] := by simp [List.getD, hi]
    rw [← e]; exact h2
  refine ⟨r2, c2, cur, h.gblk, h.gfar, ⟨h.lies.blk, h.rfar, by have := h.lies.len; have := h.lies.size; have := h.lies.cap; omega, hrow, fun i j v u g hij hi hj => h.apart i j v u g hij (by have := h.lies.len; omega) (by have := h.lies.len; omega)⟩, h.lies.len, h.lies.cap, h.lies.max, h.lies.size, h.gfar, h.rfar, fun i v b hi hv hb => ?_⟩
  obtain ⟨v2, h1, h2⟩ := hrow i hi
  rw [hv] at h1
  cases h1
  exact (h2.owns hb).1
theorem CS.below {w0 w w' : World} {base n g2 r2 c2 : Nat} {cur : Array Value} {L : List (List Int)} {k : Nat} (h : CS w0 w base n g2 r2 c2 cur L k) (hb : Below w.heap.size w w') : CS w0 w' base n g2 r2 c2 cur L k where
  low := h.low.trans (hb.mono h.low.size)
  gblk := h.gblk.below hb h.gblk.lt
  gfar := h.gfar
  rfar := h.rfar
  lies := ⟨h.lies.blk.below hb h.lies.blk.lt, h.lies.size, h.lies.cap, h.lies.max, h.lies.len, h.lies.rest⟩
  row := fun i hi => by obtain ⟨v, h1, h2⟩ := h.row i hi; exact ⟨v, h1, h2.below hb⟩
  apart := h.apart
theorem IRow.far {w : World} {base : Nat} {v : Value} {l : List Int} (h : IRow w base v l) {r : Nat} {cs : Array Value} (hb : Blk w r 71 cs) (i : Nat) (u : Value) : IRow (w.setCell ⟨r, i, none⟩ u) base v l := h.keep fun g hg => by
  obtain ⟨_, cs2, hb2⟩ := h.blk hg
  refine heap_setCell_other w ⟨r, i, none⟩ g u (fun e => ?_)
  have e' : g = r := e
  rw [e'] at hb2
  exact hb2.ne_ hb (by decide) rfl
theorem CS.next {w0 w W1 W2 : World} {base n g2 r2 c2 : Nat} {cur : Array Value} {L : List (List Int)} {k : Nat} (h : CS w0 w base n g2 r2 c2 cur L k) (hk : k < n) (b1 : Below w.heap.size w W1) (b2 : Below W1.heap.size W1 W2) {v0 v1 : Value}
    (o0 : W1.ownsRow w.heap.size 3 1 v0 (L.getD (2 * k) []).length (iv (L.getD (2 * k) []))) (o1 : W2.ownsRow W1.heap.size 3 1 v1 (L.getD (2 * k + 1) []).length (iv (L.getD (2 * k + 1) []))) :
    CS w0 ((W2.setCell ⟨r2, 2 * k, none⟩ v0).setCell ⟨r2, 2 * k + 1, none⟩ v1) base n g2 r2 c2 ((cur.setIfInBounds (2 * k) v0).setIfInBounds (2 * k + 1) v1) L (k + 1) := by
  have h2 := (h.below b1).below b2
  have q0 := (IRow.of_own o0).below b2
  have q1 := IRow.of_own o1
  have hsz : cur.size = c2 * 2 := h.lies.size
  have hcp := h.lies.cap
  have hB0 := h2.lies.blk
  have hB1 := hB0.set_ (2 * k) v0
  have hB2 := hB1.set_ (2 * k + 1) v1
  have hl := h.low.size
  have hl1 := b1.size
  have at0 : ((cur.setIfInBounds (2 * k) v0).setIfInBounds (2 * k + 1) v1)[2 * k]? = some v0 := by
    rw [Array.getElem?_setIfInBounds_ne (by omega), Array.getElem?_setIfInBounds_self_of_lt (by omega)]
  have at1 : ((cur.setIfInBounds (2 * k) v0).setIfInBounds (2 * k + 1) v1)[2 * k + 1]? = some v1 := by
    rw [Array.getElem?_setIfInBounds_self_of_lt (by rw [Array.size_setIfInBounds]; omega)]
  have ato : ∀ i, i ≠ 2 * k → i ≠ 2 * k + 1 → ((cur.setIfInBounds (2 * k) v0).setIfInBounds (2 * k + 1) v1)[i]? = cur[i]? := fun i h1 h2 => by
    rw [Array.getElem?_setIfInBounds_ne (by omega), Array.getElem?_setIfInBounds_ne (by omega)]
  have keep : ∀ {v : Value} {bs : Nat} {l : List Int}, IRow W2 bs v l → IRow ((W2.setCell ⟨r2, 2 * k, none⟩ v0).setCell ⟨r2, 2 * k + 1, none⟩ v1) bs v l := fun hv => (hv.far hB0 _ _).far hB1 _ _
  refine ⟨(h2.low.setCell h.rfar _).setCell h.rfar _, (h2.gblk.farN (h2.gblk.ne_ hB0 (by decide)) _).farN (h2.gblk.ne_ hB0 (by decide)) _, h.gfar, h.rfar, ⟨hB2, by simpa using hsz, hcp, h.lies.max, h.lies.len, fun i h1 hi => ?_⟩, fun i hi => ?_, fun i j v u q hij hi hj hv hu hq => ?_⟩
  · obtain ⟨A, d, hc, hr⟩ := h.lies.rest i (by omega) hi
    exact ⟨A, d, (ato i (by omega) (by omega)).trans hc, hr⟩
  · by_cases e0 : i = 2 * k
    · subst e0; exact ⟨v0, at0, keep (q0.more (by omega))⟩
    · by_cases e1 : i = 2 * k + 1
      · subst e1; exact ⟨v1, at1, keep (q1.more (by omega))⟩
      · obtain ⟨v, h3, h4⟩ := h2.row i (by omega)
        exact ⟨v, (ato i e0 e1).trans h3, keep h4⟩
  · have old : ∀ {m : Nat} {y : Value} {p : Nat}, m < 2 * k → cur[m]? = some y → y.ownBlock = some p → p < w.heap.size := fun {m y p} hm hy hp => by
      obtain ⟨y2, h1, h2⟩ := h.row m hm
      rw [hy] at h1
      cases h1
      exact (h2.owns hp).2
    have n0 : ∀ {p : Nat}, v0.ownBlock = some p → w.heap.size ≤ p ∧ p < W1.heap.size := fun hp => (IRow.of_own o0).owns hp
    have n1 : ∀ {p : Nat}, v1.ownBlock = some p → W1.heap.size ≤ p := fun hp => (q1.owns hp).1
    intro hq2
    have cs : ∀ {m : Nat} {y : Value}, m < 2 * (k + 1) → ((cur.setIfInBounds (2 * k) v0).setIfInBounds (2 * k + 1) v1)[m]? = some y → y.ownBlock = some q → (m = 2 * k ∧ w.heap.size ≤ q ∧ q < W1.heap.size) ∨ (m = 2 * k + 1 ∧ W1.heap.size ≤ q) ∨ (m < 2 * k ∧ cur[m]? = some y ∧ q < w.heap.size) := fun {m y} hm hy hp => by
      by_cases e0 : m = 2 * k
      · subst e0
        rw [at0] at hy
        cases hy
        exact .inl ⟨rfl, n0 hp⟩
      · by_cases e1 : m = 2 * k + 1
        · subst e1
          rw [at1] at hy
          cases hy
          exact .inr (.inl ⟨rfl, n1 hp⟩)
        · rw [ato m e0 e1] at hy
          exact .inr (.inr ⟨by omega, hy, old (by omega) hy hp⟩)
    rcases cs hi hv hq with ⟨e1, e2, e3⟩ | ⟨e1, e2⟩ | ⟨e1, e2, e3⟩ <;> rcases cs hj hu hq2 with ⟨f1, f2, f3⟩ | ⟨f1, f2⟩ | ⟨f1, f2, f3⟩
    all_goals first | omega | exact h.apart i j v u q hij e1 f1 e2 f2 hq hq2
/-- What Copy answers. -/
def CopyOut (w : World) (n : Nat) (L : List (List Int)) (e : Ending) (w' : World) : Prop :=
  ∃ g, e = .returned (.pointer (some ⟨g, 0, none⟩)) ∧ GAt w' w.heap.size (fun k => w.heap.size ≤ k) g n L ∧ Below w.heap.size w w'
set_option maxRecDepth 100000 in
set_option maxHeartbeats 4000000 in
theorem copy_any (w : World) (base g n : Nat) (F : Nat → Prop) (L : List (List Int)) (h : GAt w base F g n L) (hr : Rises L) (hn : n ≤ 30000) :
    Calls Try.prog 19 #[.pointer (some ⟨g, 0, none⟩)] w (CopyOut w n L) := by
  obtain ⟨r, c, cur, hH, hL⟩ := h.vlies
  have HN := Lib.hid (none_any w g _ hH)
  have HC := Lib.hid (clone_vertices w w base r n c cur L hL hn)
  have HR := Lib.hid hr
  have hh := hH.2
  clear h hr hH hL
  go_enter Try.func19, Try.ntmps19
  go_wp2_with fail
  refine Calls.mono HN.out ?_
  rintro e w' ⟨rfl, rfl⟩
  clear HN
  go_wp2_with fail
  refine Calls.mono HC.out ?_
  rintro e w1 ⟨r2, c2, cur2, rfl, p1, p2, p3⟩
  clear HC
  have HS0 : Hid (CS w (w1.alloc (.cells #[.bool true, .slice (some ⟨r2, 0, none⟩) n c2] 65)) base n w1.heap.size r2 c2 cur2 L 0) := Lib.hid ⟨p2.alloc p2.size _, Blk.new_ _ _ _ rfl, p2.size, p1, ⟨p3.blk.alloc _, p3.size, p3.cap, p3.max, p3.len, p3.rest⟩, fun i hi => by omega, fun i j v u q _ hi => by omega⟩
  clear p1 p2 p3
  go_wp2_with fail
  go_loopw [20] (fun i wr => ∃ (k : Nat) (cur : Array Value), k ≤ n ∧ i = .int .i64 k ∧ Hid (CS w wr base n w1.heap.size r2 c2 cur L k)) (fun i _ => n - (intOf i).toNat)
  case atStart => exact ⟨0, _, Nat.zero_le _, rfl, HS0⟩
  case round =>
    obtain ⟨k, cur, hk, rfl, HS⟩ := hrel
    clear HS0
    by_cases hlt : k < n
    · obtain ⟨A0, d0, c0, r0⟩ := HS.out.lies.rest (2 * k) (Nat.le_refl _) (by omega)
      obtain ⟨A1, d1, c1, r1⟩ := HS.out.lies.rest (2 * k + 1) (by omega) (by omega)
      have cl0 : wr.cell? ⟨r2, k * 2, none⟩ = some (.slice A0 (L.getD (2 * k) []).length d0) := by rw [Nat.mul_comm k 2]; exact (HS.out.lies.blk.cell _).trans c0
      have cl1 : wr.cell? ⟨r2, k * 2 + 1, none⟩ = some (.slice A1 (L.getD (2 * k + 1) []).length d1) := by rw [Nat.mul_comm k 2]; exact (HS.out.lies.blk.cell _).trans c1
      have HC0 := Lib.hid c0
      have HC0' := Lib.hid c1
      have HR0 := Lib.hid r0
      have HR1 := Lib.hid r1
      have i1 : (0 : Int) ≤ (k : Int) := by omega
      have i2 : (k : Int) < (n : Int) := by omega
      clear c0 c1 r0 r1
      generalize hl0 : L.getD (2 * k) [] = l0 at *
      generalize hl1 : L.getD (2 * k + 1) [] = l1 at *
      have HL0 := Lib.hid hl0
      have HL1 := Lib.hid hl1
      clear hl0 hl1
      have HA : Hid (Below wr.heap.size wr (wr.alloc (.cells #[.slice A0 l0.length d0, .slice A1 l1.length d1] 71))) := Lib.hid ((Below.refl _ wr).alloc (Nat.le_refl _) _)
      have HZ : Hid (wr.heap.size + 1 = (wr.alloc (.cells #[.slice A0 l0.length d0, .slice A1 l1.length d1] 71)).heap.size) := Lib.hid (by simp)
      have HBX := Lib.hid (Blk.new_ wr 71 #[.slice A0 l0.length d0, .slice A1 l1.length d1] rfl)
      go_wp2_with fail
      clear cl0 cl1
      generalize wr.alloc (.cells #[.slice A0 l0.length d0, .slice A1 l1.length d1] 71) = wa at *
      have HC1 : Hid (∀ W, Below wa.heap.size wa W → W.cell? ⟨w1.heap.size, 1, none⟩ = some (.slice (some ⟨r2, 0, none⟩) n c2)) := Lib.hid (fun W hW => ((HS.out.gblk.below HA.out HS.out.gblk.lt).below hW (by have := HS.out.gblk.lt; have := HZ.out; omega)).at_ 1 rfl)
      have HC2 : Hid (∀ W, Below wa.heap.size wa W → W.cell? ⟨wr.heap.size, 0, none⟩ = some (.slice A0 l0.length d0) ∧ W.cell? ⟨wr.heap.size, 1, none⟩ = some (.slice A1 l1.length d1)) := Lib.hid (fun W hW => ⟨(HBX.out.below hW (by have := HZ.out; omega)).at_ 0 rfl, (HBX.out.below hW (by have := HZ.out; omega)).at_ 1 rfl⟩)
      refine wp_region_heldG [13] (fun cc W => cc 13 = true ∨ Below wa.heap.size wa W) (by kernel_rfl) ?_
      change wpAnyG _ _ _ _ _ _ 14 _ _ wa.drew
      have hS : Below wa.heap.size wa wa.drew := (Below.refl _ wa).drew
      refine g_take (i := 0) rfl rfl (by kernel_rfl) (by kernel_rfl) (by kernel_rfl) (by kernel_rfl) (by kernel_rfl) (fun _ _ _ h => h) (.inr hS) (fun L W hL hW => by go_simp; rfl) ?_
      refine g_take (i := 1) rfl rfl (by kernel_rfl) (by kernel_rfl) (by kernel_rfl) (by kernel_rfl) (by kernel_rfl) (fun _ _ _ h => h) (.inr hS) (fun L W hL hW => by go_simp; rfl) ?_
      refine g_take (i := 2) rfl rfl (by kernel_rfl) (by kernel_rfl) (by kernel_rfl) (by kernel_rfl) (by kernel_rfl) (fun _ _ _ h => h) (.inr hS) (fun L W hL hW => by go_simp; rfl) ?_
      refine g_take (i := 3) rfl rfl (by kernel_rfl) (by kernel_rfl) (by kernel_rfl) (by kernel_rfl) (by kernel_rfl) (fun _ _ _ h => h) (.inr hS) (fun L W hL hW => by have hb := hW.resolve_left (by simp [came, hL 13 (by kernel_rfl)]); have q1 := HC1.out _ hb; obtain ⟨q2, q3⟩ := HC2.out _ hb; go_simp; rfl) ?_
      refine g_take (i := 4) rfl rfl (by kernel_rfl) (by kernel_rfl) (by kernel_rfl) (by kernel_rfl) (by kernel_rfl) (fun _ _ _ h => h) (.inr hS) (fun L W hL hW => by go_simp; rfl) ?_
      refine g_take (i := 5) rfl rfl (by kernel_rfl) (by kernel_rfl) (by kernel_rfl) (by kernel_rfl) (by kernel_rfl) (fun _ _ _ h => h) (.inr hS) (fun L W hL hW => by go_simp; rfl) ?_
      refine g_take (i := 6) rfl rfl (by kernel_rfl) (by kernel_rfl) (by kernel_rfl) (by kernel_rfl) (by kernel_rfl) (fun _ _ _ h => h) (.inr hS) (fun L W hL hW => by have hb := hW.resolve_left (by simp [came, hL 13 (by kernel_rfl)]); have q1 := HC1.out _ hb; obtain ⟨q2, q3⟩ := HC2.out _ hb; go_simp; rfl) ?_
      refine g_take (i := 8) rfl rfl (by kernel_rfl) (by kernel_rfl) (by kernel_rfl) (by kernel_rfl) (by kernel_rfl) (fun _ _ _ h => h) (.inr hS) (fun L W hL hW => by go_simp; rfl) ?_
      refine g_take (i := 9) rfl rfl (by kernel_rfl) (by kernel_rfl) (by kernel_rfl) (by kernel_rfl) (by kernel_rfl) (fun _ _ _ h => h) (.inr hS) (fun L W hL hW => by have hb := hW.resolve_left (by simp [came, hL 13 (by kernel_rfl)]); have q1 := HC1.out _ hb; obtain ⟨q2, q3⟩ := HC2.out _ hb; go_simp; rfl) ?_
      refine g_one (i := 7) rfl rfl (by kernel_rfl) fun K hK => ?_
      go_simp
      have hlowA : Below w.heap.size w wa := HS.out.low.trans (HA.out.mono HS.out.low.size)
      refine Calls.mono (clone_row wa.drew base _ l0 ((HR0.out.below (hlowA)).below ((Below.refl _ wa).drew)) (by rw [← HL0.out]; exact (HR.out.at_ _).2)) ?_
      rintro e W1 ⟨v0, rfl, o0, b0⟩
      obtain ⟨X0, e0, hv0⟩ := own_form o0
      subst hv0
      have hS1 : Below wa.heap.size wa W1 := hS.trans b0
      have HO0 := Lib.hid o0
      have HB0 := Lib.hid b0
      have HLA := Lib.hid hlowA
      clear o0 b0 hlowA
      refine hK _ _ (.inr hS1) ?_
      clear hK K
      refine g_one (i := 10) rfl rfl (by kernel_rfl) fun K hK => ?_
      go_simp
      refine Calls.mono (clone_row W1 base _ l1 ((HR1.out.below HLA.out).below hS1) (by rw [← HL1.out]; exact (HR.out.at_ _).2)) ?_
      rintro e W2 ⟨v1, rfl, o1, b1⟩
      obtain ⟨X1, e1, hv1⟩ := own_form o1
      subst hv1
      have hS2 : Below wa.heap.size wa W2 := hS1.trans (b1.mono hS1.size)
      have HO1 := Lib.hid o1
      have HB1 := Lib.hid b1
      clear o1 b1
      refine hK _ _ (.inr hS2) ?_
      clear hK K
      have HBK : Hid (Blk W2 r2 71 cur) := Lib.hid ((HS.out.lies.blk.below HA.out HS.out.lies.blk.lt).below hS2 (by have := HS.out.lies.blk.lt; have := HZ.out; omega))
      have HN2 : Hid (CS w ((W2.setCell ⟨r2, 2 * k, none⟩ (.slice X0 l0.length e0)).setCell ⟨r2, 2 * k + 1, none⟩ (.slice X1 l1.length e1)) base n w1.heap.size r2 c2 ((cur.setIfInBounds (2 * k) (.slice X0 l0.length e0)).setIfInBounds (2 * k + 1) (.slice X1 l1.length e1)) L (k + 1)) := Lib.hid (by
        refine (HS.out.below HA.out).next hlt ((Below.refl _ wa).drew.trans HB0.out) HB1.out ?_ ?_
        · rw [HL0.out]; exact HO0.out
        · rw [HL1.out]; exact HO1.out)
      rw [Nat.mul_comm 2 k] at HN2
      have HST : Hid (W2.cell? ⟨r2, k * 2, none⟩ = some (.slice A0 l0.length d0) ∧ W2.frozen? ⟨r2, k * 2, none⟩ = false ∧ (W2.setCell ⟨r2, k * 2, none⟩ (.slice X0 l0.length e0)).cell? ⟨r2, k * 2 + 1, none⟩ = some (.slice A1 l1.length d1) ∧ (W2.setCell ⟨r2, k * 2, none⟩ (.slice X0 l0.length e0)).frozen? ⟨r2, k * 2 + 1, none⟩ = false) := Lib.hid (by
        rw [Nat.mul_comm k 2]
        refine ⟨(HBK.out.cell _).trans HC0.out, HBK.out.frozen _, ((HBK.out.set_ (2 * k) _).cell _).trans ?_, (HBK.out.set_ (2 * k) _).frozen _⟩
        rw [Array.getElem?_setIfInBounds_ne (by omega)]
        exact HC0'.out)
      refine g_one (i := 11) rfl rfl (by kernel_rfl) fun K hK => ?_
      go_simp
      refine hK _ _ (.inr hS2) ?_
      clear hK K
      refine g_take (i := 12) rfl rfl (by kernel_rfl) (by kernel_rfl) (by kernel_rfl) (by kernel_rfl) (by kernel_rfl) (fun _ _ _ h => h) (.inr hS2) (fun L W hL hW => by go_simp; rfl) ?_
      refine g_one (i := 13) rfl rfl (by kernel_rfl) fun K hK => ?_
      obtain ⟨s1, s2, s3, s4⟩ := HST.out
      go_simp
      refine hK _ _ (.inl (by simp [came])) ?_
      clear hK K s1 s2 s3 s4
      refine wpAnyG_done (by kernel_rfl) ?_ _
      clear hS hS1 hS2 HST HBK HB0 HB1 HO0 HO1 HLA HC1 HC2 HBX HZ HA HC0 HC0' HR0 HR1 HS HL0 HL1
      go_simp
      go_wp2_with fail
      go_roundw
      case rel => exact ⟨k + 1, _, by omega, by go_num, HN2⟩
      case measure => simp [intOf]; omega
    · obtain rfl : k = n := by omega
      have HF : Hid (CopyOut w k L (.returned (.pointer (some ⟨w1.heap.size, 0, none⟩))) wr) := Lib.hid ⟨_, rfl, HS.out.done, HS.out.low⟩
      clear HS
      go_wp2_with fail
      go_ret
      exact HF.out
end Go.Proofs.Ytclbpohhmaojcaa.GrW
