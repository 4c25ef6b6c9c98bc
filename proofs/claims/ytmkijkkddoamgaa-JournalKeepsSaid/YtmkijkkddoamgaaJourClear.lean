/-
  Both segments are shortened, and the head is saved: run with these three.
-/
import Derived.Test.YtmkijkkddoamgaaJourW1b
import Derived.Test.YtmkijkkddoamgaaJourRun
namespace Go.Proofs.Ytmkijkkddoamgaa.Jo
set_option linter.unusedVariables false
open Go Go.RowKit Go.Shelf Go.Proofs Go.Proofs.Ytmkijkkddoamgaa Go.Proofs.Ytmkijkkddoamgaa.Wd Go.Proofs.Ytmkijkkddoamgaa.Dk Go.Proofs.Ytmkijkkddoamgaa.Hd Go.Proofs.Ytmkijkkddoamgaa.HdW

/-- A block that is none of the disk's. -/
def BF (w : World) (F : Nat → Prop) (b : Nat) (t : TypeId) (cs : Array Value) : Prop := Blk w b t cs ∧ ¬ F b
def ptr (b : Nat) : Value := .pointer (some ⟨b, 0, none⟩)
section
variable {w W W' : World} {base : Nat} {F F' : Nat → Prop} {g hb : Nat} {s s' : DS} {x : DS × H} {y : H}
theorem Saved.refl (h : At w base F g s) (qh : Blk w hb 35 (hcells y)) : Saved w base F g hb (s, y) w := ⟨F, h, qh, Fr.refl _ _, fun _ h => .inl h⟩
theorem BF.at_ {b : Nat} {t : TypeId} {cs : Array Value} (q : BF w F b t cs) (ht : t ≠ 35) (qh : Blk w hb 35 (hcells y)) (hf : Fr (fun k => F k ∨ k = hb) w W) (hs : ∀ k, F' k → F k ∨ w.heap.size ≤ k) : Blk W b t cs ∧ ¬ F' b :=
  ⟨q.1.fr hf fun e => e.elim q.2 (Blk.ne_ q.1 qh ht), out_of q.1.lt q.2 hs⟩
theorem Saved.next (hf : Fr (fun k => F k ∨ k = hb) w W) (hs : ∀ k, F' k → F k ∨ w.heap.size ≤ k) (hq : Blk W hb 35 (hcells y)) (hh : ¬ F' hb) (hN : Dk.Next W base F' g s' W') : Saved w base F g hb (s', y) W' := by
  obtain ⟨F2, k1, k2, k3⟩ := hN
  refine ⟨F2, k1, hq.fr k2 hh, hf.trans k2 fun k hk => (hs k hk).imp_left .inl, fun k hk => ?_⟩
  rcases k3 k hk with h | h
  · exact hs k h
  · exact .inr (Nat.le_trans hf.size h)
theorem Saved.then (hf : Fr (fun k => F k ∨ k = hb) w W) (hs : ∀ k, F' k → F k ∨ w.heap.size ≤ k) (hN : Saved W base F' g hb x W') : Saved w base F g hb x W' := by
  obtain ⟨F2, k1, k2, k3, k4⟩ := hN
  refine ⟨F2, k1, k2, hf.trans k3 fun k hk => ?_, fun k hk => ?_⟩
  · rcases hk with h | h
    · exact (hs k h).imp_left .inl
    · exact .inl (.inr h)
  · rcases k4 k hk with h | h
    · exact hs k h
    · exact .inr (Nat.le_trans hf.size h)
theorem then_ok {α : Type} {r : Nat × α} {f : α → Nat × α} (h : r.1 = 0) : then_ r f = f r.2 := if_pos h
theorem then_no {α : Type} {r : Nat × α} {f : α → Nat × α} (h : r.1 ≠ 0) : then_ r f = r := if_neg h
set_option maxRecDepth 100000 in
set_option maxHeartbeats 1000000 in
theorem clear_run (h : At w base F g s) (wf : Wf y) {sb a1 a2 a3 b1 b2 b3 c1 c2 : Nat} {i n j m : Int} (qh : BF w F hb 35 (hcells y))
    (qs : BF w F sb 51 #[.func (.func 69) #[] #[ptr a1, ptr a2, ptr a3], .func (.func 69) #[] #[ptr b1, ptr b2, ptr b3], .func (.func 70) #[] #[ptr c1, ptr c2]])
    (qa1 : BF w F a1 26 #[ptr g]) (qa2 : BF w F a2 3 #[.int .i64 i]) (qa3 : BF w F a3 3 #[.int .i64 n])
    (qb1 : BF w F b1 26 #[ptr g]) (qb2 : BF w F b2 3 #[.int .i64 j]) (qb3 : BF w F b3 3 #[.int .i64 m])
    (qc1 : BF w F c1 26 #[ptr g]) (qc2 : BF w F c2 98 #[ptr hb]) :
    Calls Try.prog 34 #[.slice (some ⟨sb, 0, none⟩) 3 3] w fun e w' => e = .returned (.int .i64 ((clearD s y i n j m).1 : Nat)) ∧ Saved w base F g hb (clearD s y i n j m).2 w' := by
  obtain ⟨⟨d1, s1⟩, hr1⟩ : ∃ r, shortD s i n = r := ⟨_, rfl⟩
  obtain ⟨⟨d2, s2⟩, hr2⟩ : ∃ r, shortD s1 j m = r := ⟨_, rfl⟩
  obtain ⟨⟨d3, s3, y3⟩, hr3⟩ : ∃ r, saveD s2 y = r := ⟨_, rfl⟩
  have e1 : d1 ≠ 0 → clearD s y i n j m = (d1, s1, y) := fun h0 => by
    unfold clearD lift
    dsimp only
    rw [hr1, then_no (r := then_ _ _)]
    · rw [then_no h0]
    · rw [then_no h0]; exact h0
  have e2 : d1 = 0 → d2 ≠ 0 → clearD s y i n j m = (d2, s2, y) := fun h0 h2 => by
    unfold clearD lift
    dsimp only
    rw [hr1, then_ok (r := (d1, s1, y)) h0]
    dsimp only
    rw [hr2, then_no (r := (d2, s2, y)) h2]
  have e3 : d1 = 0 → d2 = 0 → clearD s y i n j m = (d3, s3, y3) := fun h0 h2 => by
    unfold clearD lift
    dsimp only
    rw [hr1, then_ok (r := (d1, s1, y)) h0]
    dsimp only
    rw [hr2, then_ok (r := (d2, s2, y)) h2]
    dsimp only
    rw [hr3]
  have hR := run_any 3 sb (by omega) (fun k => if k < 2 then 69 else 70) (fun k => if k = 0 then #[ptr a1, ptr a2, ptr a3] else if k = 1 then #[ptr b1, ptr b2, ptr b3] else #[ptr c1, ptr c2])
    (fun k W => (k = 0 → Saved w base F g hb (s, y) W) ∧ (k = 1 → d1 = 0 ∧ Saved w base F g hb (s1, y) W) ∧ (k = 2 → d1 = 0 ∧ d2 = 0 ∧ Saved w base F g hb (s2, y) W) ∧ (k = 3 → d1 = 0 ∧ d2 = 0 ∧ d3 = 0 ∧ Saved w base F g hb (s3, y3) W))
    (fun k W => k = (clearD s y i n j m).1 ∧ Saved w base F g hb (clearD s y i n j m).2 W)
    (fun k W hk hI => by
      have ex : ∃ x, Saved w base F g hb x W := by
        rcases (by omega : k = 0 ∨ k = 1 ∨ k = 2) with rfl | rfl | rfl
        · exact ⟨_, hI.1 rfl⟩
        · exact ⟨_, (hI.2.1 rfl).2⟩
        · exact ⟨_, (hI.2.2.1 rfl).2.2⟩
      obtain ⟨x, F', -, -, hf, hs⟩ := ex
      have q := (qs.at_ (by decide) qh.1 hf hs).1
      rcases (by omega : k = 0 ∨ k = 1 ∨ k = 2) with rfl | rfl | rfl
      · exact Blk.at_ q 0 rfl
      · exact Blk.at_ q 1 rfl
      · exact Blk.at_ q 2 rfl)
    (fun k hk => by
      rcases (by omega : k = 0 ∨ k = 1 ∨ k = 2) with rfl | rfl | rfl
      · exact enters_of Try.func69 (by kernel_rfl) rfl
      · exact enters_of Try.func69 (by kernel_rfl) rfl
      · exact enters_of Try.func70 (by kernel_rfl) rfl)
    (fun k W hk hI => by
      rcases (by omega : k = 0 ∨ k = 1 ∨ k = 2) with rfl | rfl | rfl
      · obtain ⟨F', hA, hq, hf, hs⟩ := hI.1 rfl
        have p1 := qa1.at_ (by decide) qh.1 hf hs
        have p2 := qa2.at_ (by decide) qh.1 hf hs
        have p3 := qa3.at_ (by decide) qh.1 hf hs
        have hh := out_of qh.1.lt qh.2 hs
        have hS := short_any hA p1.1 p2.1 p3.1 p1.2 p2.2 p3.2
        rw [hr1] at hS
        refine Calls.mono hS ?_
        rintro e W' ⟨rfl, hN⟩
        have hT := Saved.next hf hs hq hh hN
        by_cases h0 : d1 = 0
        · subst h0
          exact .inl ⟨rfl, ⟨fun e => by simp at e, fun _ => ⟨rfl, hT⟩, fun e => by simp at e, fun e => by simp at e⟩⟩
        · exact .inr ⟨d1, h0, rfl, by rw [e1 h0], by rw [e1 h0]; exact hT⟩
      · obtain ⟨h0, F', hA, hq, hf, hs⟩ := hI.2.1 rfl
        have p1 := qb1.at_ (by decide) qh.1 hf hs
        have p2 := qb2.at_ (by decide) qh.1 hf hs
        have p3 := qb3.at_ (by decide) qh.1 hf hs
        have hh := out_of qh.1.lt qh.2 hs
        have hS := short_any hA p1.1 p2.1 p3.1 p1.2 p2.2 p3.2
        rw [hr2] at hS
        refine Calls.mono hS ?_
        rintro e W' ⟨rfl, hN⟩
        have hT := Saved.next hf hs hq hh hN
        by_cases h2 : d2 = 0
        · subst h2
          exact .inl ⟨rfl, ⟨fun e => by simp at e, fun e => by simp at e, fun _ => ⟨h0, rfl, hT⟩, fun e => by simp at e⟩⟩
        · exact .inr ⟨d2, h2, rfl, by rw [e2 h0 h2], by rw [e2 h0 h2]; exact hT⟩
      · obtain ⟨h0, h2, F', hA, hq, hf, hs⟩ := hI.2.2.1 rfl
        have p1 := qc1.at_ (by decide) qh.1 hf hs
        have p2 := qc2.at_ (by decide) qh.1 hf hs
        have hh := out_of qh.1.lt qh.2 hs
        have hS := save_runs hA wf p1.1 p2.1 hq p1.2 p2.2 hh
        rw [hr3] at hS
        refine Calls.mono hS ?_
        rintro e W' ⟨rfl, hN⟩
        have hT := Saved.then hf hs hN
        by_cases h3 : d3 = 0
        · subst h3
          exact .inl ⟨rfl, ⟨fun e => by simp at e, fun e => by simp at e, fun e => by simp at e, fun _ => ⟨h0, h2, rfl, hT⟩⟩⟩
        · exact .inr ⟨d3, h3, rfl, by rw [e3 h0 h2], by rw [e3 h0 h2]; exact hT⟩)
    w ⟨fun _ => Saved.refl h qh.1, fun e => by simp at e, fun e => by simp at e, fun e => by simp at e⟩
  refine Calls.mono hR ?_
  rintro e w' (⟨rfl, hI⟩ | ⟨k, hk, rfl, hc, hS⟩)
  · obtain ⟨h0, h2, h3, hS⟩ := hI.2.2.2 rfl
    rw [e3 h0 h2]
    subst h3
    exact ⟨rfl, hS⟩
  · subst hc
    exact ⟨rfl, hS⟩
/-- The three closures, as they were made one behind the other, and the row of them. -/
theorem clear_made {w2 w3 w4 w5 : World} (h : At w2 base F g s) (wf : Wf y) {sb a1 a2 a3 b1 b2 b3 c1 c2 : Nat} {i n j m : Int} (qh : Blk w2 hb 35 (hcells y)) (nh : ¬ F hb)
    (hB3 : Below w2.heap.size w2 w3) (hB4 : Below w3.heap.size w3 w4) (hB5 : Below w4.heap.size w4 w5)
    (qa1 : Blk w3 a1 26 #[ptr g]) (qa2 : Blk w3 a2 3 #[.int .i64 i]) (qa3 : Blk w3 a3 3 #[.int .i64 n])
    (qb1 : Blk w4 b1 26 #[ptr g]) (qb2 : Blk w4 b2 3 #[.int .i64 j]) (qb3 : Blk w4 b3 3 #[.int .i64 m])
    (qc1 : Blk w5 c1 26 #[ptr g]) (qc2 : Blk w5 c2 98 #[ptr hb])
    (hlo : w2.heap.size ≤ a1 ∧ w2.heap.size ≤ a2 ∧ w2.heap.size ≤ a3 ∧ w2.heap.size ≤ b1 ∧ w2.heap.size ≤ b2 ∧ w2.heap.size ≤ b3 ∧ w2.heap.size ≤ c1 ∧ w2.heap.size ≤ c2) (hsb : sb = w5.heap.size) :
    Calls Try.prog 34 #[.slice (some ⟨sb, 0, none⟩) 3 3] (w5.alloc (.cells #[.func (.func 69) #[] #[ptr a1, ptr a2, ptr a3], .func (.func 69) #[] #[ptr b1, ptr b2, ptr b3], .func (.func 70) #[] #[ptr c1, ptr c2]] 51))
      fun e w' => e = .returned (.int .i64 ((clearD s y i n j m).1 : Nat)) ∧ Saved w2 base F g hb (clearD s y i n j m).2 w' := by
  subst hsb
  have nF : ∀ k, w2.heap.size ≤ k → ¬ F k := fun k hk e => by have := (h.lt e).2; omega
  have hB6 := (Below.refl w5.heap.size w5).alloc (Nat.le_refl _) (.cells #[.func (.func 69) #[] #[ptr a1, ptr a2, ptr a3], .func (.func 69) #[] #[ptr b1, ptr b2, ptr b3], .func (.func 70) #[] #[ptr c1, ptr c2]] 51)
  have qs := Blk.new_ w5 51 #[.func (.func 69) #[] #[ptr a1, ptr a2, ptr a3], .func (.func 69) #[] #[ptr b1, ptr b2, ptr b3], .func (.func 70) #[] #[ptr c1, ptr c2]] rfl
  generalize w5.alloc (.cells #[.func (.func 69) #[] #[ptr a1, ptr a2, ptr a3], .func (.func 69) #[] #[ptr b1, ptr b2, ptr b3], .func (.func 70) #[] #[ptr c1, ptr c2]] 51) = w6 at *
  have s3 := hB3.size
  have s4 := hB4.size
  have s5 := hB5.size
  have h56 := hB6.mono s5
  have B46 := hB5.trans (hB6.mono s5)
  have B36 := hB4.trans (B46.mono s4)
  have B26 := hB3.trans (B36.mono s3)
  obtain ⟨l1, l2, l3, l4, l5, l6, l7, l8⟩ := hlo
  have hR := clear_run (h.below B26) wf ⟨qh.below B26 qh.lt, nh⟩ ⟨qs, nF _ (by omega)⟩ ⟨qa1.below B36 qa1.lt, nF _ l1⟩ ⟨qa2.below B36 qa2.lt, nF _ l2⟩ ⟨qa3.below B36 qa3.lt, nF _ l3⟩
    ⟨qb1.below B46 qb1.lt, nF _ l4⟩ ⟨qb2.below B46 qb2.lt, nF _ l5⟩ ⟨qb3.below B46 qb3.lt, nF _ l6⟩ ⟨qc1.below hB6 qc1.lt, nF _ l7⟩ ⟨qc2.below hB6 qc2.lt, nF _ l8⟩
  refine Calls.mono hR ?_
  rintro e w' ⟨rfl, hS⟩
  exact ⟨rfl, Saved.then (Fr.of_below B26 _) (fun _ h => .inl h) hS⟩
end
end Go.Proofs.Ytmkijkkddoamgaa.Jo
