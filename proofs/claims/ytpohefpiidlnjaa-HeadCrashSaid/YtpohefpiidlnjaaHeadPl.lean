/-
  Saving and loading, plainly.
-/
import Derived.Test.YtpohefpiidlnjaaHeadWalks7
import Derived.Test.YtpohefpiidlnjaaDiskSlotPl
namespace Go.Proofs.Ytpohefpiidlnjaa.HdW
set_option linter.unusedVariables false
open Go Go.RowKit Go.Shelf Go.Proofs Go.Proofs.Ytpohefpiidlnjaa Go.Proofs.Ytpohefpiidlnjaa.Wd Go.Proofs.Ytpohefpiidlnjaa.Dk Go.Proofs.Ytpohefpiidlnjaa.Hd

/-- Alive, without a fuse. -/
structure Al (s : DS) : Prop where
  fuse : s.fuse = none
  dead : s.dead = false
theorem two_of (n : Nat) : n % 2 < 2 := Nat.mod_lt _ (by decide)
theorem save_al {s : DS} (ha : Al s) {h : H} (r : right h = true) :
    saveR s h = ((h, 0), sySs (putS (h.serial % 2) (Hd.bytes h) s) 2) := by
  unfold saveR
  rw [if_neg (by rw [r]; simp), wr_ok ha.fuse ha.dead (two_of _) (bytes_length h)]
  show (if (0 : Nat) = 0 then _ else _) = _
  rw [if_pos rfl]
  show (if (shD (putS (h.serial % 2) (Hd.bytes h) s)).1 = 0 then _ else _) = _
  rw [sh_ok (s := putS (h.serial % 2) (Hd.bytes h) s) ha.fuse ha.dead]
  rfl
/-- What a save makes of a disk. -/
def savedD (h : H) (s : DS) : DS := sySs (putS (h.serial % 2) (Hd.bytes h) s) 2
theorem saved_al {s : DS} (ha : Al s) (h : H) : Al (savedD h s) := ⟨(sySs_fuse _ 2).trans ha.fuse, (sySs_dead _).trans ha.dead⟩
theorem saved_eq {s : DS} (h : H) : sh (savedD h s) (h.serial % 2) = Hd.bytes h := (sySs_sh _ (two_of _)).trans (putS_eq _ _ _)
theorem saved_ne {s : DS} (h : H) {j : Nat} (hj : j < 2) (hne : j ≠ h.serial % 2) : sh (savedD h s) j = sh s j := (sySs_sh _ hj).trans (putS_ne hne _ _)
theorem saved_wr {s : DS} (h : H) {j : Nat} (hj : j < 2) : (savedD h s).wr j = false := (sySs_sl _ hj).2.1
theorem load_al {s : DS} (ha : Al s) : loadR s = if 0 < (Hd.pick (sh s 0) (sh s 1)).serial then (Hd.pick (sh s 0) (sh s 1), 0) else (none_, 50) := by
  unfold loadR
  have h0 : hd s 0 = sh s 0 := hd_sh ha.dead (k := 0) (by decide)
  have h1 : hd s 1 = sh s 1 := hd_sh ha.dead (k := 1) (by decide)
  rw [ha.dead, h0, h1, if_neg (by simp)]
/-- One slot has a head of its own; what the other one has does not count ahead of it. -/
theorem pick_own {x y : List UInt8} {h : H} (w : Wf h) (r : right h = true) (k : Nat) (hk : h.serial % 2 = k) (hx : (if k = 0 then x else y) = Hd.bytes h)
    (ho : ∀ g, Hd.read (if k = 0 then y else x) = some g → g.serial % 2 = k ∨ g.serial < h.serial) : Hd.pick x y = h := by
  have hpos : 0 < h.serial := by simp [right] at r; exact r.1
  rcases (by omega : k = 0 ∨ k = 1) with rfl | rfl
  · rw [if_pos rfl] at hx ho
    unfold Hd.pick
    rw [hx, read_bytes w r]
    cases hy : Hd.read y with
    | none => simp [hk]
    | some g =>
      rcases ho g hy with h1 | h1
      · simp [hk, h1]
      · simp only [hk, if_true]
        rw [if_neg (fun e => by omega)]
  · rw [if_neg (by decide)] at hx ho
    unfold Hd.pick
    rw [hx, read_bytes w r]
    cases hy : Hd.read x with
    | none => simp [hk, none_, hpos]
    | some g =>
      simp only []
      rcases ho g hy with h1 | h1
      · rw [if_neg (c := g.serial % 2 = 0) (by omega)]
        simp [hk, none_, hpos]
      · by_cases h2 : g.serial % 2 = 0
        · rw [if_pos h2, if_pos ⟨hk, h1⟩]
        · rw [if_neg h2]
          simp [hk, none_, hpos]
theorem load_own {s : DS} (ha : Al s) {h : H} (w : Wf h) (r : right h = true) (k : Nat) (hk : h.serial % 2 = k) (hx : sh s k = Hd.bytes h)
    (ho : ∀ g, Hd.read (sh s (1 - k)) = some g → g.serial % 2 = k ∨ g.serial < h.serial) : loadR s = (h, 0) := by
  have hpos : 0 < h.serial := by simp [right] at r; exact r.1
  have hp : Hd.pick (sh s 0) (sh s 1) = h := by
    refine pick_own w r k hk ?_ ?_
    · rcases (by omega : k = 0 ∨ k = 1) with rfl | rfl
      · exact hx
      · exact hx
    · rcases (by omega : k = 0 ∨ k = 1) with rfl | rfl
      · exact ho
      · exact ho
  rw [load_al ha, hp, if_pos hpos]
end Go.Proofs.Ytpohefpiidlnjaa.HdW
