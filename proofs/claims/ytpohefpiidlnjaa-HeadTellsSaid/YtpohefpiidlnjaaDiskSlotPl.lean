/-
  Slots plainly; a row of 32 bytes as an argument.
-/
import Derived.Test.YtpohefpiidlnjaaDiskWalks9
import Derived.Test.YtpohefpiidlnjaaDiskArg
import Derived.Test.YtpohefpiidlnjaaWordsArg
import Derived.Deep.DeepCutAuto
import Derived.Deep.Slices
namespace Go.Proofs.Ytpohefpiidlnjaa.Dk
set_option linter.unusedVariables false
open Go Go.RowKit Go.Shelf Go.Proofs Go.Proofs.Ytpohefpiidlnjaa Go.Proofs.Ytpohefpiidlnjaa.Wd Go.ChangeShapes Go.WideShapes

theorem after_live {s : DS} (h : s.fuse = none) (f : DS → DS) (fl : Nat → DS → DS) : after s f fl = (0, f s) := by unfold after; rw [h]
theorem of_args {W : World} {B b : Nat} {A : Option Addr} {l : List UInt8} {F : Nat → Prop} {g : Nat} {s : DS} (h : Bytes W B A l) (hA : At W b F g s) (hb : B ≤ b) : l ≠ [] → ∀ x o, A = some ⟨x, o, none⟩ → ¬ F x := fun hne x o e hf => by
  rcases l with _ | ⟨u, r⟩
  · exact hne rfl
  · obtain ⟨y, off, e', hy, _⟩ := h.at_ (j := 0) (by simp)
    rw [e] at e'
    cases e'
    have := (hA.lt hf).1
    omega
theorem lower {W : World} {b b' : Nat} {F : Nat → Prop} {g : Nat} {s : DS} (h : At W b F g s) (hb : b' ≤ b) : At W b' F g s := by
  obtain ⟨cs, v, vf, R, fb, h⟩ := h
  exact ⟨cs, v, vf, R, fb, h.ok, h.blk, h.cells, h.row, h.fuse, h.fg, h.fR, h.ff, h.apart, fun k hk => ⟨Nat.le_trans hb (h.lo k hk).1, (h.lo k hk).2⟩⟩
/-- What a slot is read as. -/
def sh (s : DS) (i : Nat) : List UInt8 := if s.wr i then s.lo i else s.sl i
section
variable {s : DS}
theorem hd_sh (h : s.dead = false) {k : Nat} (hk : k < 2) : hd s (k : Int) = sh s k := by
  unfold hd sh; rw [h, if_neg (by simp), among_yes hk, if_pos rfl, Int.toNat_natCast]
theorem hd_two (s : DS) : hd s 2 = [] := by
  unfold hd; cases s.dead <;> rfl
theorem wr_ok (hf : s.fuse = none) (h : s.dead = false) {k : Nat} (hk : k < 2) {b : List UInt8} (hb : b.length = 32) : wrD s (k : Int) b = (0, putS k b s) := by
  unfold wrD; rw [if_neg (by rw [h]; simp), if_neg (by rw [among_yes hk]; simp), if_pos hb, after_live hf, Int.toNat_natCast]
theorem wr_long (h : s.dead = false) {k : Nat} (hk : k < 2) {b : List UInt8} (hb : b.length ≠ 32) : wrD s (k : Int) b = (2, s) := by
  unfold wrD; rw [if_neg (by rw [h]; simp), if_neg (by rw [among_yes hk]; simp), if_neg hb]
theorem wr_two (h : s.dead = false) (b : List UInt8) : wrD s 2 b = (2, s) := by
  unfold wrD; rw [if_neg (by rw [h]; simp), if_pos (by decide)]
theorem sh_ok (hf : s.fuse = none) (h : s.dead = false) : shD s = (0, sySs s 2) := by
  unfold shD; rw [if_neg (by rw [h]; simp), after_live hf]
theorem syS_dead (k : Nat) (s : DS) : (syS k s).dead = s.dead := by unfold syS; split <;> rfl
theorem sySs_dead (s : DS) : (sySs s 2).dead = s.dead := (syS_dead 1 _).trans (syS_dead 0 s)
theorem syS_eq (k : Nat) (s : DS) : (syS k s).sl k = sh s k ∧ (syS k s).wr k = false ∧ (syS k s).lo = s.lo := by
  unfold syS sh
  cases h : s.wr k
  · exact ⟨rfl, h, rfl⟩
  · exact ⟨upd_eq _ _ _, upd_eq _ _ _, rfl⟩
theorem syS_ne {j k : Nat} (hj : j ≠ k) (s : DS) : (syS k s).sl j = s.sl j ∧ (syS k s).wr j = s.wr j := by
  unfold syS
  cases h : s.wr k
  · exact ⟨rfl, rfl⟩
  · exact ⟨upd_ne hj, upd_ne hj⟩
theorem sySs_sl (s : DS) {i : Nat} (hi : i < 2) : (sySs s 2).sl i = sh s i ∧ (sySs s 2).wr i = false ∧ (sySs s 2).lo = s.lo := by
  show (syS 1 (syS 0 s)).sl i = _ ∧ (syS 1 (syS 0 s)).wr i = _ ∧ (syS 1 (syS 0 s)).lo = _
  refine ⟨?_, ?_, ((syS_eq 1 _).2.2).trans (syS_eq 0 s).2.2⟩
  · rcases (by omega : i = 0 ∨ i = 1) with rfl | rfl
    · exact (syS_ne (by decide) _).1.trans (syS_eq 0 s).1
    · refine (syS_eq 1 _).1.trans ?_
      unfold sh
      rw [(syS_ne (by decide) s).2, (syS_ne (by decide) s).1, (syS_eq 0 s).2.2]
  · rcases (by omega : i = 0 ∨ i = 1) with rfl | rfl
    · exact (syS_ne (by decide) _).2.trans (syS_eq 0 s).2.1
    · exact (syS_eq 1 _).2.1
theorem sySs_sh (s : DS) {i : Nat} (hi : i < 2) : sh (sySs s 2) i = sh s i := by
  show (if (sySs s 2).wr i then _ else _) = _
  rw [(sySs_sl s hi).2.1, if_neg (by simp), (sySs_sl s hi).1]
theorem putS_eq (k : Nat) (b : List UInt8) (s : DS) : sh (putS k b s) k = b := by
  have h1 : (putS k b s).wr k = true := upd_eq _ _ _
  unfold sh
  rw [h1, if_pos rfl]
  exact upd_eq _ _ _
theorem putS_ne {j k : Nat} (hj : j ≠ k) (b : List UInt8) (s : DS) : sh (putS k b s) j = sh s j := by
  have h1 : (putS k b s).wr j = s.wr j := upd_ne hj
  have h2 : (putS k b s).lo j = s.lo j := upd_ne hj
  unfold sh
  rw [h1, h2]
  rfl
/-- What a crash leaves of a slot. -/
def cs1 (keep : Nat → Int) (s : DS) (i : Nat) : List UInt8 := if s.wr i then (s.lo i).take (slotM keep i) ++ (s.sl i).drop ((s.lo i).take (slotM keep i)).length else s.sl i
theorem crash_slot (keep : Nat → Int) (s : DS) {i : Nat} (hi : i < 2) : sh (crashD keep s) i = cs1 keep s i := by
  unfold cs1 sh
  rcases (by omega : i = 0 ∨ i = 1) with rfl | rfl <;> cases h0 : s.wr 0 <;> cases h1 : s.wr 1 <;> simp [crashD, cslots, csegs, cutD, copyD, unwr, revive, upd, h0, h1]
theorem crash_dead (keep : Nat → Int) (s : DS) : (crashD keep s).dead = false ∧ (crashD keep s).fuse = none := ⟨rfl, rfl⟩
end
/-- What DiskSlots asks, plainly. -/
theorem slots_law {k : Nat} (hk : k < 2) {a b : List UInt8} (ha : a.length = 32) (hb : b.length = 32) (sync : Bool) (keep : Nat → Int) :
    ∃ s1 s2 s3 s4 s5 : DS, wrD (newD 0) (k : Int) a = (0, s1) ∧ hd s1 (k : Int) = a ∧ shD s1 = (0, s2) ∧ wrD s2 (k : Int) b = (0, s3) ∧ hd s3 (k : Int) = b ∧ (sync = true → shD s3 = (0, s4)) ∧ (sync = false → s4 = s3)
      ∧ wrD s4 (k : Int) (b.take 31) = (2, s4) ∧ wrD s4 2 b = (2, s4) ∧ s5 = crashD keep s4 ∧ hd s5 (k : Int) = b.take (if sync then 32 else slotM keep k) ++ a.drop (if sync then 32 else slotM keep k)
      ∧ hd s5 ((1 - k : Nat) : Int) = List.replicate 32 0 ∧ hd s5 2 = [] := by
  have hne : 1 - k ≠ k := by omega
  have h1k : 1 - k < 2 := by omega
  have d1 : (putS k a (newD 0)).dead = false := rfl
  have f1 : (putS k a (newD 0)).fuse = none := rfl
  have d2 : (sySs (putS k a (newD 0)) 2).dead = false := (sySs_dead _).trans d1
  have f2 : (sySs (putS k a (newD 0)) 2).fuse = none := (sySs_fuse _ 2).trans f1
  have d3 : (putS k b (sySs (putS k a (newD 0)) 2)).dead = false := d2
  have f3 : (putS k b (sySs (putS k a (newD 0)) 2)).fuse = none := f2
  have z0 : sh (newD 0) (1 - k) = List.replicate 32 0 := rfl
  cases sync
  · refine ⟨_, _, _, _, _, wr_ok rfl rfl hk ha, (hd_sh d1 hk).trans (putS_eq k a _), sh_ok f1 d1, wr_ok f2 d2 hk hb, (hd_sh d3 hk).trans (putS_eq k b _), (fun e => by cases e), fun _ => rfl, wr_long d3 hk (by rw [List.length_take]; omega), wr_two d3 b, rfl, ?_, ?_, hd_two _⟩
    · rw [hd_sh (crash_dead _ _).1 hk, crash_slot keep _ hk]
      show (if (upd _ k true k : Bool) then _ else _) = _
      rw [upd_eq, if_pos rfl, if_neg (by simp)]
      show (upd _ k b k).take _ ++ ((sySs (putS k a (newD 0)) 2).sl k).drop ((upd _ k b k).take _).length = _
      rw [upd_eq, (sySs_sl _ hk).1, putS_eq, List.length_take, hb, Nat.min_eq_left (by unfold slotM; omega)]
    · rw [hd_sh (crash_dead _ _).1 h1k, crash_slot keep _ h1k]
      show (if (upd _ k true (1 - k) : Bool) then _ else _) = _
      rw [upd_ne hne, (sySs_sl _ h1k).2.1, if_neg (by simp)]
      show (sySs (putS k a (newD 0)) 2).sl (1 - k) = _
      rw [(sySs_sl _ h1k).1, putS_ne hne, z0]
  · have d4 : (sySs (putS k b (sySs (putS k a (newD 0)) 2)) 2).dead = false := (sySs_dead _).trans d3
    refine ⟨_, _, _, _, _, wr_ok rfl rfl hk ha, (hd_sh d1 hk).trans (putS_eq k a _), sh_ok f1 d1, wr_ok f2 d2 hk hb, (hd_sh d3 hk).trans (putS_eq k b _), fun _ => sh_ok f3 d3, (fun e => by cases e), wr_long d4 hk (by rw [List.length_take]; omega), wr_two d4 b, rfl, ?_, ?_, hd_two _⟩
    · rw [hd_sh (crash_dead _ _).1 hk, crash_slot keep _ hk, if_pos rfl]
      unfold cs1
      rw [(sySs_sl _ hk).2.1, if_neg (by simp), (sySs_sl _ hk).1, putS_eq, List.take_of_length_le (by omega), List.drop_of_length_le (by omega), List.append_nil]
    · rw [hd_sh (crash_dead _ _).1 h1k, crash_slot keep _ h1k]
      unfold cs1
      rw [(sySs_sl _ h1k).2.1, if_neg (by simp), (sySs_sl _ h1k).1, putS_ne hne, sySs_sh _ h1k, putS_ne hne, z0]
theorem arr32 {H : Type} {enc : TypeId × Value → H} {W : World} {base : Nat} {spare : Nat → Bool} {held : Bool} {r : Reach} {b0 : Nat} {v : Value} {d : DataW H} {p : List MemPlace} (hv : Value.okWide Try.prog W r b0 37 v) (h : DataW.Trod enc Try.prog W base spare held 37 v d p) :
    ∃ l : List UInt8, v = .agg (bs l).toArray ∧ l.length = 32 := by
  obtain ⟨cs, rfl, hsz, hx⟩ := open_array Try.underlying37 Try.underlying5 (by kernel_rfl) (by kernel_rfl) hv h
  obtain ⟨q, hq⟩ := Deep.choose_lt (n := 32) (α := UInt8) (p := fun i x => cs[i]? = some (.int .u8 (x.toNat : Nat))) (fun i hi => by
    obtain ⟨x, h0, w0⟩ := hx i (by omega)
    obtain ⟨n, rfl, hn⟩ := u8_of w0
    exact ⟨UInt8.ofNat n, by rw [Array.getElem?_eq_getElem (by omega)]; simp; rw [h0]; simp; omega⟩)
  refine ⟨(List.range 32).map q, ?_, by simp⟩
  congr 1
  apply Array.ext
  · simp [bs, hsz]
  · intro i hi h2
    have := hq i (by omega)
    rw [Array.getElem?_eq_getElem hi] at this
    simp only [Option.some.injEq] at this
    rw [this]
    simp [bs]
end Go.Proofs.Ytpohefpiidlnjaa.Dk
