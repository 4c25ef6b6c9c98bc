/-
  The walk of OrderUp.
-/
import Derived.Test.YtelplccbcbegkaaOrderUp0
namespace Go.Proofs.Ytelplccbcbegkaa.Ord
set_option linter.unusedVariables false
open Go.Proofs.Ytelplccbcbegkaa.Gr (E Path Inside OK outs intos Cyc putL)
theorem OSt.acyc {n : Nat} {L : List (List Int)} {P A : List Nat} (h : OSt n L P A) : ¬ Cyc n L := fun ⟨u, v, hu, hv, he, hp⟩ => by
  have h1 := h.up u v he
  have h2 := h.up.path hp
  omega
end Go.Proofs.Ytelplccbcbegkaa.Ord
namespace Go.Proofs.Ytelplccbcbegkaa.OrW
set_option linter.unusedVariables false
open Go Go.RowKit Go.Proofs Go.Proofs.Ytelplccbcbegkaa Go.Proofs.Ytelplccbcbegkaa.Wd Go.Proofs.Ytelplccbcbegkaa.GrW Go.Proofs.Ytelplccbcbegkaa.Ord
open Go.Proofs.Ytelplccbcbegkaa.Gr (OK putL outs intos Path edgesTo)

theorem ints_two {w : World} {base base' : Nat} {A A' : Option Addr} {n c n' c' : Nat} {l m : List Int} (h : w.ownsRow base 3 1 (.slice A n c) n (iv l)) (h' : w.ownsRow base' 3 1 (.slice A' n' c') n' (iv m)) :
    Calls Try.prog 20 #[.slice A n c, .slice A' n' c'] w fun e w' => e = .returned (.bool (decide (l = m))) ∧ Below w.heap.size w w' := by
  obtain ⟨h1, h2, h3, h4⟩ := Nums.of_own h
  obtain ⟨k1, k2, k3, k4⟩ := Nums.of_own h'
  exact ints_any A A' c c' l m n n' h2 k2 h3 h4 w h1 k1
theorem mod_nat (x : Int) (M : Nat) (hM : 0 < M) : ∃ u : Nat, x % (M : Int) = (u : Int) ∧ u < M := by
  have h1 := Int.emod_nonneg x (b := (M : Int)) (by omega)
  have h2 := Int.emod_lt_of_pos x (b := (M : Int)) (by omega)
  exact ⟨(x % (M : Int)).toNat, by omega, by omega⟩
theorem sort_ok {w : World} {base g n : Nat} {F : Nat → Prop} {L : List (List Int)} (h : GAt w base F g n L) (ok : OK n L) (hn : n ≤ 30000) (hc : ¬ Gr.Cyc n L) : Calls Try.prog 40 #[.pointer (some ⟨g, 0, none⟩)] w fun e w' => ∃ A c, e = .returned (.tuple #[.slice A n c, .bool true]) ∧ Below w.heap.size w w' := by
  refine (GrW.sort_any w base g n F L h (ok.rises hn) ok.inside ok.cons hn).mono ?_
  rintro e w' ⟨out, h1, h2, h3, h4⟩
  have hl := (Gr.sorted_iff ok h1 h2).2 hc
  rcases h4 with ⟨-, v', rfl, h5⟩ | ⟨h4, -⟩
  · obtain ⟨A, c, rfl⟩ := own_form h5
    rw [hl]
    exact ⟨A, c, rfl, h3⟩
  · omega
theorem own_fr {w w' : World} {F : Nat → Prop} {base B n : Nat} {v : Value} {e : TypeId} {sz : Nat} {l : List Value} (h : w.ownsRow base e sz v n l) (hf : Fr F w w') (hF : ∀ k, F k → k < B) (hb : B ≤ base) : w'.ownsRow base e sz v n l :=
  own_keep h fun g hg => by
    obtain ⟨h1, cs, hc⟩ := own_row h hg
    exact hf.block g hc.lt fun e => by have := hF g e; omega
theorem GAt.more {w : World} {base base' g n : Nat} {F : Nat → Prop} {L : List (List Int)} (h : GAt w base F g n L) (hb : base' ≤ base) : GAt w base' F g n L := by
  obtain ⟨r, c, cur, q1, q2, q3, q4⟩ := h
  refine ⟨r, c, cur, q1, Nat.le_trans hb q2, ⟨q3.blk, Nat.le_trans hb q3.far, q3.fits, fun i hi => ?_, q3.apart⟩, q4⟩
  obtain ⟨v, e1, e2⟩ := q3.row i hi
  exact ⟨v, e1, e2.more hb⟩
theorem BothF.start {w w1 w2 : World} {o g M : Nat} {L G : List (List Int)} {P A : List Nat} (hO : OAt w1 w.heap.size (fun k => w.heap.size ≤ k ∧ k < w1.heap.size) o M L P A) (hB : Below w.heap.size w w1) (hG : GAt w2 w1.heap.size (fun k => w1.heap.size ≤ k) g M G) (hB2 : Below w1.heap.size w1 w2) :
    BothF w w2 (fun k => w.heap.size ≤ k ∧ k < w1.heap.size) (fun k => w1.heap.size ≤ k ∧ k < w2.heap.size) o g M L P A G where
  ord := hO.below hB2
  gr := GAt.more hG.exist hB.size
  f1 := fun k e => ⟨e.1, Nat.lt_of_lt_of_le e.2 hB2.size⟩
  f2 := fun k e => ⟨Nat.le_trans hB.size e.1, e.2⟩
  apart := fun k e1 e2 => by have := e1.2; have := e2.1; omega
  low := hB.trans (hB2.mono hB.size)
end Go.Proofs.Ytelplccbcbegkaa.OrW
