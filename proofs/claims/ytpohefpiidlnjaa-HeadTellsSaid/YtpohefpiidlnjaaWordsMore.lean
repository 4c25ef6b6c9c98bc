/-
  Words for memory: rows of numbers; own rows beside one another.
-/
import Derived.Test.YtpohefpiidlnjaaWordsHeld
namespace Go.Proofs.Ytpohefpiidlnjaa.Wd
set_option linter.unusedVariables false
open Go Go.RowKit

theorem bdrewN {B : Nat} {a w : World} (h : Below B a w) (n : Nat) : Below B a (w.drewN n) := h.trans ⟨rfl, rfl, rfl, Nat.le_refl _, fun _ _ => rfl⟩
theorem ret_i64' {a b : Int} (h : a = b) : Ending.returned (.int .i64 a) = .returned (.int .i64 b) := by rw [h]
theorem ret_bool {a b : Bool} (h : a = b) : Ending.returned (.bool a) = .returned (.bool b) := by rw [h]
section
variable {w w' : World} {base n c : Nat} {e : TypeId} {A : Option Addr} {xs : List Value}
theorem own_cap' {size m : Nat} (h : w.ownsRow base e size (.slice A n c) m xs) : c ≤ maxLen := by
  rcases h.2 with ⟨h, _⟩ | ⟨g, cap, cur, h, _, _, _, h8, _⟩
  · simp only [Value.slice.injEq] at h; have := h.2.2; subst this; simp [maxLen]
  · simp only [Value.slice.injEq] at h; have := h.2.2; omega
theorem own_le {size : Nat} (h : w.ownsRow base e size (.slice A n c) n xs) : n ≤ c := by
  rcases h.2 with ⟨h, _⟩ | ⟨g, cap, cur, h, _, _, h8, _, _⟩
  · simp only [Value.slice.injEq] at h; omega
  · simp only [Value.slice.injEq] at h; omega
theorem own_rowW (h : w.ownsRow base e 1 (.slice A n c) n xs) : Row w w.heap.size A xs := Row.of_own h
theorem own_len (h : w.ownsRow base e 1 (.slice A n c) n xs) : xs.length = n := by have := h.1; omega
theorem own_belowW {B k : Nat} {v : Value} {m : Nat} (h : w.ownsRow B e k v m xs) (hb : Below w.heap.size w w') : w'.ownsRow B e k v m xs :=
  own_keep h fun g hg => by obtain ⟨_, cs, hc⟩ := own_row h hg; exact hb.block g hc.lt
/-- An own row stays when another one, of another kind, grows. -/
theorem own_otherW {base' size size' m n' : Nat} {e' : TypeId} {v v' : Value} {xs' : List Value} (hne : e ≠ e') (h : w.ownsRow base e size v m xs) (h' : w.ownsRow base' e' size' v' n' xs') (hg : w.grownBy w' v'.ownBlock) : w'.ownsRow base e size v m xs :=
  own_keep h fun g hgv => by
    obtain ⟨_, cs, hb⟩ := own_row h hgv
    refine hg.block g hb.lt (fun hx => ?_)
    obtain ⟨_, cs', hb'⟩ := own_row h' hx.symm
    exact Blk.ne_ (g := g) (g' := g) hb hb' hne rfl
/-- An own row stays when one that lies from a later block on grows. -/
theorem own_later {base' size size' m n' : Nat} {e' : TypeId} {v v' : Value} {xs' : List Value} (h : w.ownsRow base e size v m xs) (hlt : ∀ g, v.ownBlock = some g → g < base') (h' : w.ownsRow base' e' size' v' n' xs') (hg : w.grownBy w' v'.ownBlock) : w'.ownsRow base e size v m xs :=
  own_keep h fun g hgv => by
    obtain ⟨_, cs, hb⟩ := own_row h hgv
    exact hg.block g hb.lt (fun hx => by have := hlt g hgv; have := (own_row h' hx.symm).1; omega)
end
/-- The cells of numbers. -/
def iv (l : List Int) : List Value := l.map (.int .i64 ·)
theorem iv_length (l : List Int) : (iv l).length = l.length := by simp [iv]
theorem iv_append (a b : List Int) : iv (a ++ b) = iv a ++ iv b := List.map_append
theorem iv_get (l : List Int) (j : Nat) (h : j < (iv l).length) : (iv l)[j] = .int .i64 (l[j]'(by simpa [iv] using h)) := by simp [iv]
theorem iv_one (l : List Int) : ∀ u ∈ iv l, u.oneCell' = true := by
  intro u hu
  obtain ⟨_, _, rfl⟩ := List.mem_map.1 hu
  rfl
/-- A slice of numbers that reads as l. -/
def Nums (w : World) (B : Nat) (A : Option Addr) (l : List Int) : Prop := Row w B A (iv l)
theorem Nums.at_ {w : World} {B : Nat} {A : Option Addr} {l : List Int} (h : Nums w B A l) {j : Nat} (hj : j < l.length) :
    ∃ b off, A = some ⟨b, off, none⟩ ∧ b < B ∧ w.cell? ⟨b, off + j, none⟩ = some (.int .i64 l[j]) := by
  obtain ⟨b, off, e, hb, hc⟩ := h j (by simpa [iv] using hj)
  exact ⟨b, off, e, hb, by rw [hc, iv_get]⟩
theorem Nums.below {w w' : World} {B : Nat} {A : Option Addr} {l : List Int} (h : Nums w B A l) (hb : Below B w w') : Nums w' B A l := Row.below h hb
theorem Nums.more {w : World} {B B' : Nat} {A : Option Addr} {l : List Int} (h : Nums w B A l) (hB : B ≤ B') : Nums w B' A l := Row.more h hB
theorem Nums.grow {w w' : World} {A : Option Addr} {l : List Int} (h : Nums w w.heap.size A l) (hb : Below w.heap.size w w') : Nums w' w'.heap.size A l := (Row.below h hb).more hb.size
theorem Nums.of_own {w : World} {base n c : Nat} {e : TypeId} {A : Option Addr} {l : List Int} (h : w.ownsRow base e 1 (.slice A n c) n (iv l)) : Nums w w.heap.size A l ∧ n = l.length ∧ n ≤ c ∧ c ≤ maxLen :=
  ⟨Row.of_own h, by have := own_len h; rw [iv_length] at this; exact this.symm, own_le h, own_cap' h⟩
theorem Nums.head {w : World} {B : Nat} {A : Option Addr} {l : List Int} (h : Nums w B A l) (j : Nat) : Nums w B A (l.take j) := by
  unfold Nums; rw [show iv (l.take j) = (iv l).take j by simp [iv, List.map_take]]
  exact h.take _
end Go.Proofs.Ytpohefpiidlnjaa.Wd
