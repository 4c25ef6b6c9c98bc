/-
  The walk of Append.
-/
import Derived.Test.YtgajgjijnpigoaaDiskWalks3
import Derived.Test.YtgajgjijnpigoaaWordsRange
import Derived.Deep.DeepCutAuto
import Derived.Shelf.Abstract
namespace Go.Proofs.Ytgajgjijnpigoaa.Dk
set_option linter.unusedVariables false
open Go Go.RowKit Go.Shelf Go.Proofs Go.Proofs.Ytgajgjijnpigoaa Go.Proofs.Ytgajgjijnpigoaa.Wd

section
variable {base : Nat} {F : Nat → Prop} {g : Nat} {s : DS}
set_option maxRecDepth 100000 in
theorem do_append {w : World} (h : At w base F g s) {k : Nat} (hk : k < 2) {B3 B4 B5 B8 : Nat} {A : Option Addr} {n c : Nat} {b : List UInt8} (q3 : Blk w B3 25 #[.pointer (some ⟨g, 0, none⟩)]) (q4 : Blk w B4 3 #[.int .i64 k]) (q5 : Blk w B5 29 #[.slice A n c])
    (q8 : Blk w B8 75 #[.func (.func 32) #[] #[.pointer (some ⟨B3, 0, none⟩), .pointer (some ⟨B4, 0, none⟩), .pointer (some ⟨B5, 0, none⟩)]]) (f3 : ¬ F B3) (f4 : ¬ F B4) (f5 : ¬ F B5)
    (hn : n = b.length) (hnc : n ≤ c) (hI : Bytes w w.heap.size A b) (hroom : (s.all 0).length + (s.all 1).length + n ≤ s.cap) :
    Calls Try.prog 34 #[.pointer (some ⟨B8, 0, none⟩), .pointer (some ⟨B5, 0, none⟩)] w fun e w' => (∃ v, e = .returned v) ∧ Next w base F g (putD k b n s) w' := by
  have d5 := Blk.at_ q5 0 (v := .slice A n c) rfl
  have d8 := Blk.at_ q8 0 (v := .func (.func 32) #[] #[.pointer (some ⟨B3, 0, none⟩), .pointer (some ⟨B4, 0, none⟩), .pointer (some ⟨B5, 0, none⟩)]) rfl
  have HP := Lib.hid (put_any h hk q3 q4 q5 f3 f4 f5 hn hnc hI hroom n)
  clear h q3 q4 q5 q8 hI hn
  go_enter Try.func34, Try.ntmps34
  go_wp2_with fail
  refine Calls.mono HP.out ?_
  rintro e w2 ⟨⟨v2, rfl⟩, hN⟩
  have HN := Lib.hid hN
  clear hN
  go_wp2
  go_end0
  exact ⟨⟨_, rfl⟩, HN.out⟩

/-- What Append answers, and makes of a disk. -/
def appD (s : DS) (i : Int) (b : List UInt8) : Nat × DS :=
  if s.dead then (3, s) else if (decide (i = 0) || decide (i = 1)) = false then (2, s) else if free s < b.length then (5, s) else after s (putD i.toNat b b.length) (putD i.toNat b)
set_option maxRecDepth 100000 in
set_option maxHeartbeats 1000000 in
theorem append_any {w : World} (h : At w base F g s) (i : Int) {A : Option Addr} {n c : Nat} {b : List UInt8} (hn : n = b.length) (hnc : n ≤ c) (hcm : c ≤ maxLen) (hI : Bytes w w.heap.size A b) (hAF : b ≠ [] → ∀ x o, A = some ⟨x, o, none⟩ → ¬ F x) :
    Calls Try.prog 11 #[.pointer (some ⟨g, 0, none⟩), .int .i64 i, .slice A n c] w fun e w' => e = .returned (.int .i64 ((appD s i b).1 : Nat)) ∧ Next w base F g (appD s i b).2 w' := by
  unfold maxLen at hcm
  have HA0 := Lib.hid h
  have hz3 := ((Blk.new_ w 25 #[.pointer (some ⟨g, 0, none⟩)] rfl).alloc (.cells #[.int .i64 i] 3)).alloc (.cells #[.slice A n c] 29)
  have hz4 := (Blk.new_ (w.alloc (.cells #[.pointer (some ⟨g, 0, none⟩)] 25)) 3 #[.int .i64 i] (n := w.heap.size + 1) (by simp)).alloc (.cells #[.slice A n c] 29)
  have hz5 := Blk.new_ ((w.alloc (.cells #[.pointer (some ⟨g, 0, none⟩)] 25)).alloc (.cells #[.int .i64 i] 3)) 29 #[.slice A n c] (n := w.heap.size + 1 + 1) (by simp)
  have hB : Below w.heap.size w (((w.alloc (.cells #[.pointer (some ⟨g, 0, none⟩)] 25)).alloc (.cells #[.int .i64 i] 3)).alloc (.cells #[.slice A n c] 29)) := (((Below.refl _ w).alloc (Nat.le_refl _) _).alloc (by simp) _).alloc (by simp; omega) _
  have HN := Lib.hid hn
  clear hn h
  go_enter Try.func11, Try.ntmps11
  go_wp2_with fail
  have hA := HA0.out.below hB
  refine Calls.mono (why_any hA) ?_
  rintro e w1 ⟨rfl, rfl⟩
  generalize ((w.alloc (.cells #[.pointer (some ⟨g, 0, none⟩)] 25)).alloc (.cells #[.int .i64 i] 3)).alloc (.cells #[.slice A n c] 29) = w1 at *
  have d3 := Blk.at_ hz3 0 (v := .pointer (some ⟨g, 0, none⟩)) rfl
  have d4 := Blk.at_ hz4 0 (v := .int .i64 i) rfl
  have d5 := Blk.at_ hz5 0 (v := .slice A n c) rfl
  have HL5 : Hid (w.heap.size + 1 + 1 < w1.heap.size) := Lib.hid hz5.lt
  cases hd : s.dead
  rotate_left
  · have HR : Hid (appD s i b = (3, s)) := Lib.hid (by unfold appD; rw [if_pos hd])
    have HNX : Hid (Next w base F g s w1) := Lib.hid ⟨F, hA, Fr.of_below hB F, fun _ h => .inl h⟩
    simp only [if_true]
    clear hA hB hz3 hz4 hz5 hd hI
    go_wp2_with fail
    go_ret
    rw [HR.out]
    exact ⟨rfl, HNX.out⟩
  simp only [Bool.false_eq_true, if_false]
  go_wp2_with fail
  refine Calls.mono (among_any i w1) ?_
  rintro e w2 ⟨rfl, rfl⟩
  rcases among_cases i with ⟨k, rfl, hk⟩ | hno
  rotate_left
  · have HR : Hid (appD s i b = (2, s)) := Lib.hid (by unfold appD; rw [if_neg (by rw [hd]; simp), if_pos hno])
    have HNX : Hid (Next w base F g s w1) := Lib.hid ⟨F, hA, Fr.of_below hB F, fun _ h => .inl h⟩
    rw [hno]
    clear hA hB hz3 hz4 hz5 hd hI hno
    go_wp2_with fail
    go_ret
    rw [HR.out]
    exact ⟨rfl, HNX.out⟩
  have HAP : Hid (appD s (k : Int) b = if free s < n then (5, s) else after s (putD k b n) (putD k b)) := Lib.hid (by
    unfold appD; rw [if_neg (by rw [hd]; simp), if_neg (by rw [among_yes hk]; simp), ← HN.out]; rfl)
  have HFR : Hid (free s = s.cap - (s.all 0).length - (s.all 1).length) := Lib.hid (by unfold free; rw [if_neg (by rw [hd]; simp)])
  rw [among_yes hk]
  go_wp2_with fail
  go_upto_region 6 with fail
  go_cut [19] (fun v wx => v = .bool (decide ((free s : Int) < (n : Int))) ∧ Below w1.heap.size w1 wx)
  case first =>
    clear hI d4
    refine wp_region_heldG [] (fun _ W => W.cell? ⟨w.heap.size, 0, none⟩ = some (.pointer (some ⟨g, 0, none⟩)) ∧ W.cell? ⟨w.heap.size + 1 + 1, 0, none⟩ = some (.slice A n c)) (by kernel_rfl) ?_
    change wpAnyG _ _ _ _ _ _ 6 _ _ (World.drew _)
    have hS : w1.drew.cell? ⟨w.heap.size, 0, none⟩ = some (.pointer (some ⟨g, 0, none⟩)) ∧ w1.drew.cell? ⟨w.heap.size + 1 + 1, 0, none⟩ = some (.slice A n c) := ⟨d3, d5⟩
    have hB1 : Below w1.heap.size w1 w1.drew := (Below.refl _ w1).drew
    -- take0 take1 take2 one3 take4 take5 done
    refine g_take (i := 0) rfl rfl (by kernel_rfl) (by kernel_rfl) (by kernel_rfl) (by kernel_rfl) (by kernel_rfl) (fun _ _ _ h => h) hS (fun L W hL hW => by have q1 := hW.1; have q2 := hW.2; go_simp; rfl) ?_
    refine g_take (i := 1) rfl rfl (by kernel_rfl) (by kernel_rfl) (by kernel_rfl) (by kernel_rfl) (by kernel_rfl) (fun _ _ _ h => h) hS (fun L W hL hW => by go_simp; rfl) ?_
    refine g_take (i := 2) rfl rfl (by kernel_rfl) (by kernel_rfl) (by kernel_rfl) (by kernel_rfl) (by kernel_rfl) (fun _ _ _ h => h) hS (fun L W hL hW => by have q1 := hW.1; have q2 := hW.2; go_simp; rfl) ?_
    refine g_one (i := 3) rfl rfl (by kernel_rfl) fun K hK => ?_
    go_simp
    refine Calls.mono (free_any (hA.below hB1)) ?_
    rintro e w2 ⟨rfl, hb2⟩
    have hB2 := hB1.trans (hb2.mono hB1.size)
    have hS2 : w2.cell? ⟨w.heap.size, 0, none⟩ = some (.pointer (some ⟨g, 0, none⟩)) ∧ w2.cell? ⟨w.heap.size + 1 + 1, 0, none⟩ = some (.slice A n c) := ⟨(hb2.cell (p := ⟨w.heap.size, _, none⟩) (by have := HL5.out; show w.heap.size < w1.heap.size; omega)).trans hS.1, (hb2.cell (p := ⟨w.heap.size + 1 + 1, _, none⟩) (by show w.heap.size + 1 + 1 < _; exact HL5.out)).trans hS.2⟩
    refine hK _ _ hS2 ?_
    clear hK K
    refine g_take (i := 4) rfl rfl (by kernel_rfl) (by kernel_rfl) (by kernel_rfl) (by kernel_rfl) (by kernel_rfl) (fun _ _ _ h => h) hS2 (fun L W hL hW => by go_simp; rfl) ?_
    refine g_take (i := 5) rfl rfl (by kernel_rfl) (by kernel_rfl) (by kernel_rfl) (by kernel_rfl) (by kernel_rfl) (fun _ _ _ h => h) hS2 (fun L W hL hW => by go_simp; rfl) ?_
    refine wpAnyG_done (by kernel_rfl) ?_ _
    go_wp2_with fail
    go_meet
    exact ⟨by simp, hB2⟩
  case rest =>
  obtain ⟨rfl, hBc⟩ := hcut
  clear d3 d4 d5
  have hB2 := hB.trans (hBc.mono hB.size)
  by_cases hfull : free s < n
  · have u1 : ((free s : Nat) : Int) < (n : Int) := by omega
    have HR : Hid (appD s (k : Int) b = (5, s)) := Lib.hid (by rw [HAP.out, if_pos hfull])
    have HNX : Hid (Next w base F g s wc) := Lib.hid ⟨F, hA.below hBc, Fr.of_below hB2 F, fun _ h => .inl h⟩
    clear hA hB hz3 hz4 hz5 hd hI hBc hB2 hfull
    have u2 : decide (((free s : Nat) : Int) < (n : Int)) = true := decide_eq_true u1
    rw [u2]
    clear u1 u2
    go_wp2_with fail
    go_ret
    rw [HR.out]
    exact ⟨rfl, HNX.out⟩
  have HR : Hid (appD s (k : Int) b = after s (putD k b n) (putD k b)) := Lib.hid (by rw [HAP.out, if_neg hfull])
  have hroom : Hid ((s.all 0).length + (s.all 1).length + n ≤ s.cap) := Lib.hid (by have := HFR.out; have := hA.ok.room; omega)
  have u1 : ¬ ((free s : Nat) : Int) < (n : Int) := by omega
  have u2 : decide (((free s : Nat) : Int) < (n : Int)) = false := decide_eq_false u1
  have r3 := (hz3.below hBc hz3.lt).alloc (.cells #[(.func (.func 32) #[] #[.pointer (some ⟨w.heap.size, 0, none⟩), .pointer (some ⟨w.heap.size + 1, 0, none⟩), .pointer (some ⟨w.heap.size + 1 + 1, 0, none⟩)])] 75)
  have r4 := (hz4.below hBc hz4.lt).alloc (.cells #[(.func (.func 32) #[] #[.pointer (some ⟨w.heap.size, 0, none⟩), .pointer (some ⟨w.heap.size + 1, 0, none⟩), .pointer (some ⟨w.heap.size + 1 + 1, 0, none⟩)])] 75)
  have r5 := (hz5.below hBc hz5.lt).alloc (.cells #[(.func (.func 32) #[] #[.pointer (some ⟨w.heap.size, 0, none⟩), .pointer (some ⟨w.heap.size + 1, 0, none⟩), .pointer (some ⟨w.heap.size + 1 + 1, 0, none⟩)])] 75)
  have r8 := Blk.new_ wc 75 #[(.func (.func 32) #[] #[.pointer (some ⟨w.heap.size, 0, none⟩), .pointer (some ⟨w.heap.size + 1, 0, none⟩), .pointer (some ⟨w.heap.size + 1 + 1, 0, none⟩)])] (n := wc.heap.size) rfl
  have hB3 := hB2.alloc hB2.size (.cells #[(.func (.func 32) #[] #[.pointer (some ⟨w.heap.size, 0, none⟩), .pointer (some ⟨w.heap.size + 1, 0, none⟩), .pointer (some ⟨w.heap.size + 1 + 1, 0, none⟩)])] 75)
  have z8 := Blk.new_ wc 75 #[.nilFunc] (n := wc.heap.size) rfl
  have c8 : (wc.alloc (.cells #[.nilFunc] 75)).cell? ⟨wc.heap.size, 0, none⟩ = some .nilFunc := Blk.at_ z8 0 rfl
  have fz8 := z8.frozen 0
  have ho8 : Value.oneCell' (.func (.func 32) #[] #[.pointer (some ⟨w.heap.size, 0, none⟩), .pointer (some ⟨w.heap.size + 1, 0, none⟩), .pointer (some ⟨w.heap.size + 1 + 1, 0, none⟩)]) = true := rfl
  have hru := fun m => run_store Try.prog (wc.alloc (.cells #[.nilFunc] 75)) ⟨wc.heap.size, 0, none⟩ (.func (.func 32) #[] #[.pointer (some ⟨w.heap.size, 0, none⟩), .pointer (some ⟨w.heap.size + 1, 0, none⟩), .pointer (some ⟨w.heap.size + 1 + 1, 0, none⟩)]) m ho8
  simp only [c8, fz8] at hru
  have d3a := fun O => Blk.at_ ((hz3.below hBc hz3.lt).alloc O) 0 (v := .pointer (some ⟨g, 0, none⟩)) rfl
  have d8a := Blk.at_ r8 0 (v := (.func (.func 32) #[] #[.pointer (some ⟨w.heap.size, 0, none⟩), .pointer (some ⟨w.heap.size + 1, 0, none⟩), .pointer (some ⟨w.heap.size + 1 + 1, 0, none⟩)])) rfl
  have d3 := Blk.at_ (hz3.below hBc hz3.lt) 0 (v := .pointer (some ⟨g, 0, none⟩)) rfl
  have hFl : ∀ j, F j → j < w.heap.size := fun j hj => (HA0.out.lt hj).2
  have hw1 : w.heap.size ≤ wc.heap.size := hB2.size
  rw [u2]
  clear hA hB hz3 hz4 hz5 hd hBc hB2 hfull u1 u2
  go_wp2_with fail
  generalize wc.alloc (.cells #[(.func (.func 32) #[] #[.pointer (some ⟨w.heap.size, 0, none⟩), .pointer (some ⟨w.heap.size + 1, 0, none⟩), .pointer (some ⟨w.heap.size + 1 + 1, 0, none⟩)])] 75) = w5 at *
  have hA5 := HA0.out.below hB3
  have hI5 : Bytes w5 w5.heap.size A b := Bytes.grow hI hB3
  have f3 : ¬ F w.heap.size := fun e => by have := hFl _ e; omega
  have f4 : ¬ F (w.heap.size + 1) := fun e => by have := hFl _ e; omega
  have f5 : ¬ F (w.heap.size + 1 + 1) := fun e => by have := hFl _ e; omega
  have f8 : ¬ F wc.heap.size := fun e => by have := hFl _ e; omega
  refine Calls.mono (change_any hA5 34 32 #[.pointer (some ⟨wc.heap.size, 0, none⟩), .pointer (some ⟨w.heap.size + 1 + 1, 0, none⟩)] #[.pointer (some ⟨w.heap.size, 0, none⟩), .pointer (some ⟨w.heap.size + 1, 0, none⟩), .pointer (some ⟨w.heap.size + 1 + 1, 0, none⟩)] (putD k b n) (putD k b)
    (enters_of Try.func34 (by kernel_rfl) rfl) (enters_of Try.func32 (by kernel_rfl) rfl) rfl
    (fun W o hW hf => do_append (s := fused s o) hW hk (r3.fr hf f3) (r4.fr hf f4) (r5.fr hf f5) (r8.fr hf f8) f3 f4 f5 HN.out hnc (hI5.fr hf hAF) hroom.out)
    (fun p _ => put_any hA5 hk r3 r4 r5 f3 f4 f5 HN.out hnc hI5 hroom.out p)) ?_
  rintro e w6 ⟨rfl, hN⟩
  have HNX : Hid (Next w base F g (after s (putD k b n) (putD k b)).2 w6) := Lib.hid (Next.trans (s' := s) (Fr.of_below hB3 F) (fun _ h => .inl h) hN)
  clear hN hA5 hI5 hB3 r3 r4 r5 r8 hI
  go_wp2_with fail
  go_ret
  rw [HR.out]
  exact ⟨rfl, HNX.out⟩
end
end Go.Proofs.Ytgajgjijnpigoaa.Dk
