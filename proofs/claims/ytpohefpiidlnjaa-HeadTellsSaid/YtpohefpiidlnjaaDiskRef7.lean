/-
  The walks of the document's disk: Crash, New.
-/
import Derived.Test.YtpohefpiidlnjaaDiskRef5
import Derived.Test.YtpohefpiidlnjaaDiskRef6
namespace Go.Proofs.Ytpohefpiidlnjaa.Dr
set_option linter.unusedVariables false
open Go Go.RowKit Go.Proofs Go.Proofs.Ytpohefpiidlnjaa Go.Proofs.Ytpohefpiidlnjaa.Wd
open Go.Proofs.Ytpohefpiidlnjaa.Dk (DS upd upd_eq upd_ne Fresh rd hd free own_empty Ok among_yes segN cutD csegs slotM copyD unwr cslots revive crashD newD)
/-- A round of the document's crash: a segment, and a slot. -/
def crs (keep : Nat → Int) (i : Nat) (t : DS) : DS := unwr i (if t.wr i then copyD i (slotM keep i) (cutD i (segN keep i t) t) else cutD i (segN keep i t) t)
theorem crash_eq (keep : Nat → Int) (s : DS) : crashD keep s = revive (crs keep 1 (crs keep 0 s)) := by
  obtain ⟨A, hA⟩ : ∃ A, A = cutD 0 (segN keep 0 s) s := ⟨_, rfl⟩
  obtain ⟨C, hC⟩ : ∃ C, C = cutD 1 (segN keep 1 A) A := ⟨_, rfl⟩
  have e0 : crashD keep s = revive (unwr 1 (if (cslots keep C 1).wr 1 then copyD 1 (slotM keep 1) (cslots keep C 1) else cslots keep C 1)) := by rw [hC, hA]; rfl
  have e1 : cslots keep C 1 = unwr 0 (if C.wr 0 then copyD 0 (slotM keep 0) C else C) := rfl
  have w0 : C.wr = s.wr := by rw [hC, hA]; rfl
  have wA : A.wr = s.wr := by rw [hA]; rfl
  have e2 : crs keep 0 s = unwr 0 (if s.wr 0 then copyD 0 (slotM keep 0) A else A) := by rw [hA]; rfl
  rw [e0, e1, e2, w0]
  unfold crs
  cases h : s.wr 0
  · simp only [Bool.false_eq_true, if_false]
    have w1 : (unwr 0 C).wr 1 = s.wr 1 := by show upd C.wr 0 false 1 = _; rw [w0]; rfl
    have w2 : (unwr 0 A).wr 1 = s.wr 1 := by show upd A.wr 0 false 1 = _; rw [wA]; rfl
    rw [w1, w2, hC]
    cases s.wr 1 <;> rfl
  · simp only [if_true]
    have w1 : (unwr 0 (copyD 0 (slotM keep 0) C)).wr 1 = s.wr 1 := by show upd C.wr 0 false 1 = _; rw [w0]; rfl
    have w2 : (unwr 0 (copyD 0 (slotM keep 0) A)).wr 1 = s.wr 1 := by show upd A.wr 0 false 1 = _; rw [wA]; rfl
    rw [w1, w2, hC]
    cases s.wr 1 <;> rfl
theorem crs_same (keep : Nat → Int) (i : Nat) (t : DS) : (crs keep i t).dead = t.dead ∧ (crs keep i t).fuse = t.fuse ∧ (crs keep i t).cap = t.cap := by
  unfold crs
  cases t.wr i <;> exact ⟨rfl, rfl, rfl⟩
theorem crs_ok {keep : Nat → Int} {i : Nat} {t : DS} (h : Ok t) (hi : i < 2) : Ok (crs keep i t) := by
  have h1 := Dk.cutD_ok h hi (Dk.segN_le h keep hi)
  unfold crs
  cases t.wr i
  · rw [if_neg (by simp)]; exact ⟨h1.cap, h1.room, h1.safe, h1.sl, h1.lo, h1.fuse⟩
  · rw [if_pos rfl]
    have h2 := Dk.copyD_ok h1 (m := slotM keep i) hi
    exact ⟨h2.cap, h2.room, h2.safe, h2.sl, h2.lo, h2.fuse⟩
theorem some_any {w : World} (A : Option Addr) (n c : Nat) (m : Int) (hnc : n ≤ c) (hcm : c ≤ maxLen) (hm : m ≤ 9223372036854775807) : Calls Try.prog 51 #[.slice A n c, .int .i64 m] w fun e w' => e = .returned (.slice A (min m.toNat n) c) ∧ w = w' := by
  unfold maxLen at hcm
  by_cases h0 : m < 0
  · have HM : Hid (min m.toNat n = 0) := Lib.hid (by omega)
    have u1 : ¬ (n : Int) < 0 := by omega
    have u2 : (0 : Int) ≤ (c : Int) := by omega
    go_enter Try.func51, Try.ntmps51
    go_wp2_with fail
    go_ret
    exact ⟨by rw [HM.out]; rfl, rfl⟩
  · obtain ⟨k, rfl⟩ : ∃ k : Nat, m = k := ⟨m.toNat, by omega⟩
    by_cases h1 : n < k
    · have HM : Hid (min (k : Int).toNat n = n) := Lib.hid (by omega)
      have u1 : (n : Int) < (k : Int) := by omega
      have u2 : (n : Int) ≤ (c : Int) := by omega
      clear h1 h0
      go_enter Try.func51, Try.ntmps51
      go_wp2_with fail
      go_ret
      exact ⟨by rw [HM.out]; rfl, rfl⟩
    · have HM : Hid (min k n = k) := Lib.hid (by omega)
      have u1 : ¬ (n : Int) < (k : Int) := by omega
      have u2 : (k : Int) ≤ (c : Int) := by omega
      clear h1 h0
      go_enter Try.func51, Try.ntmps51
      go_wp2_with fail
      go_ret
      exact ⟨by rw [HM.out]; rfl, rfl⟩
theorem RV.crs0 {w : World} {F : Nat → Prop} {s : DS} {v : Nat → Sl} {cl k : Int} (ok : Ok s) (h : RV w F s v cl k) (keep : Nat → Int) {x y : Sl}
    (hx : Ref w F x ((s.all 0).take (s.safe 0) ++ ((s.all 0).drop (s.safe 0)).take (min (keep 0).toNat ((s.all 0).drop (s.safe 0)).length)))
    (hy : Ref w F y ((if s.wr 0 then s.lo 0 else []).take (min (keep (2 + 0)).toNat (if s.wr 0 then s.lo 0 else []).length) ++ (s.sl 0).drop (min (keep (2 + 0)).toNat (if s.wr 0 then s.lo 0 else []).length))) :
    RV w F (crs keep 0 s) (upd (upd (upd (upd v 1 x) 2 (none, 0, 0)) 5 y) 6 (none, 0, 0)) cl k := by
  have hs := ok.safe 0 (by omega)
  have e1 : (s.all 0).take (s.safe 0) ++ ((s.all 0).drop (s.safe 0)).take (min (keep 0).toNat ((s.all 0).drop (s.safe 0)).length) = ((s.all 0).take (segN keep 0 s)).take (segN keep 0 s) := by
    rw [List.take_take, Nat.min_self, ← List.take_add, List.length_drop]; rfl
  have e2 : ((s.all 0).take (segN keep 0 s)).drop (segN keep 0 s) = [] := by rw [List.drop_of_length_le]; rw [List.length_take]; omega
  rw [e1] at hx
  unfold crs
  cases hw : s.wr 0
  · rw [hw, if_neg (by simp)] at hy
    simp only [List.length_nil, Nat.min_zero, List.take_zero, List.nil_append, List.drop_zero] at hy
    rw [if_neg (by simp)]
    exact ⟨hx, by show Ref w F (none, 0, 0) _; rw [show ((unwr 0 (cutD 0 (segN keep 0 s) s)).all 0).drop ((unwr 0 (cutD 0 (segN keep 0 s) s)).safe 0) = [] from e2]; exact Ref.nil _ _, h.a1, h.b1, hy, Ref.nil _ _, h.c1, h.d1, h.fu⟩
  · rw [hw, if_pos rfl] at hy
    rw [if_pos rfl]
    have h32 := ok.lo 0 (by omega)
    have e3 : (s.lo 0).take (min (keep (2 + 0)).toNat (s.lo 0).length) ++ (s.sl 0).drop (min (keep (2 + 0)).toNat (s.lo 0).length) = (s.lo 0).take (slotM keep 0) ++ (s.sl 0).drop ((s.lo 0).take (slotM keep 0)).length := by
      rw [List.length_take, h32]; unfold Dk.slotM; congr 2; omega
    rw [e3] at hy
    exact ⟨hx, by show Ref w F (none, 0, 0) (((s.all 0).take (segN keep 0 s)).drop (segN keep 0 s)); rw [e2]; exact Ref.nil _ _, h.a1, h.b1, hy, Ref.nil _ _, h.c1, h.d1, h.fu⟩
theorem RV.crs1 {w : World} {F : Nat → Prop} {s : DS} {v : Nat → Sl} {cl k : Int} (ok : Ok s) (h : RV w F s v cl k) (keep : Nat → Int) {x y : Sl}
    (hx : Ref w F x ((s.all 1).take (s.safe 1) ++ ((s.all 1).drop (s.safe 1)).take (min (keep 1).toNat ((s.all 1).drop (s.safe 1)).length)))
    (hy : Ref w F y ((if s.wr 1 then s.lo 1 else []).take (min (keep (2 + 1)).toNat (if s.wr 1 then s.lo 1 else []).length) ++ (s.sl 1).drop (min (keep (2 + 1)).toNat (if s.wr 1 then s.lo 1 else []).length))) :
    RV w F (crs keep 1 s) (upd (upd (upd (upd v 3 x) 4 (none, 0, 0)) 7 y) 8 (none, 0, 0)) cl k := by
  have hs := ok.safe 1 (by omega)
  have e1 : (s.all 1).take (s.safe 1) ++ ((s.all 1).drop (s.safe 1)).take (min (keep 1).toNat ((s.all 1).drop (s.safe 1)).length) = ((s.all 1).take (segN keep 1 s)).take (segN keep 1 s) := by
    rw [List.take_take, Nat.min_self, ← List.take_add, List.length_drop]; rfl
  have e2 : ((s.all 1).take (segN keep 1 s)).drop (segN keep 1 s) = [] := by rw [List.drop_of_length_le]; rw [List.length_take]; omega
  rw [e1] at hx
  unfold crs
  cases hw : s.wr 1
  · rw [hw, if_neg (by simp)] at hy
    simp only [List.length_nil, Nat.min_zero, List.take_zero, List.nil_append, List.drop_zero] at hy
    rw [if_neg (by simp)]
    exact ⟨h.a0, h.b0, hx, by show Ref w F (none, 0, 0) _; rw [show ((unwr 1 (cutD 1 (segN keep 1 s) s)).all 1).drop ((unwr 1 (cutD 1 (segN keep 1 s) s)).safe 1) = [] from e2]; exact Ref.nil _ _, h.c0, h.d0, hy, Ref.nil _ _, h.fu⟩
  · rw [hw, if_pos rfl] at hy
    rw [if_pos rfl]
    have h32 := ok.lo 1 (by omega)
    have e3 : (s.lo 1).take (min (keep (2 + 1)).toNat (s.lo 1).length) ++ (s.sl 1).drop (min (keep (2 + 1)).toNat (s.lo 1).length) = (s.lo 1).take (slotM keep 1) ++ (s.sl 1).drop ((s.lo 1).take (slotM keep 1)).length := by
      rw [List.length_take, h32]; unfold Dk.slotM; congr 2; omega
    rw [e3] at hy
    exact ⟨h.a0, h.b0, hx, by show Ref w F (none, 0, 0) (((s.all 1).take (segN keep 1 s)).drop (segN keep 1 s)); rw [e2]; exact Ref.nil _ _, h.c0, h.d0, hy, Ref.nil _ _, h.fu⟩
/-- The boxes of Crash: the argument's, keep's, the answer's. -/
def Tri (F : Nat → Prop) (b : Nat) : Nat → Prop := fun j => F j ∨ (b ≤ j ∧ j ≤ b + 2)
/-- A call of the document's disk, under way: its boxes, and what the struct reads as. -/
structure SC (kc : Array Value) (F : Nat → Prop) (w w1 : World) (X : Array Value) (t : DS) (v : Nat → Sl) (cl k : Int) : Prop where
  box : Blk w1 w.heap.size 69 X
  kept : Blk w1 (w.heap.size + 1) 61 kc
  res : Blk w1 (w.heap.size + 2) 69 #[.int .i64 0, .slice none 0 0, .slice none 0 0, .slice none 0 0, .slice none 0 0, .slice none 0 0, .slice none 0 0, .slice none 0 0, .slice none 0 0, .bool false, .int .i64 0, .int .i64 0, .bool false]
  low : Below w.heap.size w w1
  rv : RV w1 (Tri F w.heap.size) t v cl k
  lt : ∀ j, Tri F w.heap.size j → j < w1.heap.size
section
variable {kc : Array Value} {w w1 w2 : World} {F : Nat → Prop} {X : Array Value} {t : DS} {v : Nat → Sl} {cl k : Int}
theorem SC.start {s : DS} (h : RV w F s v cl k) (hF : ∀ j, F j → j < w.heap.size) (hX : X.size = 13) : SC kc F w (((w.alloc (.cells X 69)).alloc (.cells kc 61)).alloc (.cells #[.int .i64 0, .slice none 0 0, .slice none 0 0, .slice none 0 0, .slice none 0 0, .slice none 0 0, .slice none 0 0, .slice none 0 0, .slice none 0 0, .bool false, .int .i64 0, .int .i64 0, .bool false] 69)) X s v cl k where
  box := ((Blk.new_ w 69 X rfl).alloc _).alloc _
  kept := (Blk.new_ (w.alloc (.cells X 69)) 61 kc (n := w.heap.size + 1) (by simp)).alloc _
  res := Blk.new_ ((w.alloc (.cells X 69)).alloc (.cells kc 61)) 69 #[.int .i64 0, .slice none 0 0, .slice none 0 0, .slice none 0 0, .slice none 0 0, .slice none 0 0, .slice none 0 0, .slice none 0 0, .slice none 0 0, .bool false, .int .i64 0, .int .i64 0, .bool false] (n := w.heap.size + 2) (by simp)
  low := (((Below.refl _ w).alloc (Nat.le_refl _) _).alloc (by simp) _).alloc (by simp; omega) _
  rv := (((h.less (G := Tri F w.heap.size) (fun j hj => by rcases hj with h | ⟨h, -⟩; exact .inl h; exact .inr h)).below ((Below.refl _ w).alloc (Nat.le_refl _) _)).below ((Below.refl _ _).alloc (Nat.le_refl _) _)).below ((Below.refl _ _).alloc (Nat.le_refl _) _)
  lt j hj := by
    simp only [World.size_alloc]
    rcases hj with hj | hj
    · have := hF j hj; omega
    · omega
theorem SC.below (h : SC kc F w w1 X t v cl k) (hb : Below w1.heap.size w1 w2) : SC kc F w w2 X t v cl k :=
  ⟨h.box.below hb h.box.lt, h.kept.below hb h.kept.lt, h.res.below hb h.res.lt, h.low.trans (hb.mono h.low.size), h.rv.below hb, fun j hj => Nat.lt_of_lt_of_le (h.lt j hj) hb.size⟩
theorem SC.drew (h : SC kc F w w1 X t v cl k) : SC kc F w w1.drew X t v cl k := h.below ((Below.refl _ w1).drew)
theorem SC.put (h : SC kc F w w1 X t v cl k) (X2 : Array Value) : SC kc F w (w1.setRow w.heap.size X2) X2 t v cl k := by
  have hf : Fr (fun j => j = w.heap.size) w1 (w1.setRow w.heap.size X2) := ⟨rfl, rfl, rfl, by simp, fun j hj hne => setRow_other w1 _ j _ hne⟩
  exact ⟨h.box.row X2, h.kept.rowFar (by omega) X2, h.res.rowFar (by omega) X2, below_row h.low (Nat.le_refl _) X2, h.rv.fr hf (fun j hj => .inl (.inr ⟨Nat.le_of_eq (Eq.symm hj), by omega⟩)), fun j hj => by simpa using h.lt j hj⟩
theorem SC.cell (h : SC kc F w w1 X t v cl k) (i : Nat) (u : Value) : SC kc F w (w1.setCell ⟨w.heap.size, i, none⟩ u) (X.setIfInBounds i u) t v cl k := by
  have hf : Fr (fun j => j = w.heap.size) w1 (w1.setCell ⟨w.heap.size, i, none⟩ u) := Fr.setCell (F := fun j => j = w.heap.size) (p := ⟨w.heap.size, i, none⟩) (Fr.refl _ _) (.inl rfl) u
  exact ⟨h.box.set_ i u, h.kept.far (p := ⟨w.heap.size, i, none⟩) (by show _ ≠ w.heap.size; omega) u, h.res.far (p := ⟨w.heap.size, i, none⟩) (by show _ ≠ w.heap.size; omega) u, h.low.setCell (p := ⟨w.heap.size, i, none⟩) (Nat.le_refl _) u, h.rv.fr hf (fun j hj => .inl (.inr ⟨Nat.le_of_eq (Eq.symm hj), by omega⟩)), fun j hj => by simpa using h.lt j hj⟩
theorem SC.re {t' : DS} {v' : Nat → Sl} {cl' k' : Int} (h : SC kc F w w1 X t v cl k) (hr : RV w1 (Tri F w.heap.size) t' v' cl' k') : SC kc F w w1 X t' v' cl' k' := ⟨h.box, h.kept, h.res, h.low, hr, h.lt⟩
theorem SC.kills {cl2 : Int} (h : SC kc F w w1 X t v cl k) (fu : ∀ a b, (killed t).fuse = some (a, b) → cl2 = a ∧ k = b) : SC kc F w w1 X (killed t) v cl2 k := h.re (h.rv.kills fu)
theorem SC.out1 (h : SC kc F w w1 X t v cl k) (hX : X = rcells t v cl k) : Turned1 F t w (.returned (.agg X)) (w1.setRow (w.heap.size + 2) X) := by
  have hf : Fr (fun j => j = w.heap.size + 2) w1 (w1.setRow (w.heap.size + 2) X) := ⟨rfl, rfl, rfl, by simp, fun j hj hne => setRow_other w1 _ j _ hne⟩
  exact ⟨⟨v, cl, k, by rw [hX]; rfl, (h.rv.fr hf (fun j hj => .inl (.inr ⟨by omega, Nat.le_of_eq hj⟩))).less fun j hj => .inl (.inl hj)⟩, below_row h.low (by omega) _⟩
theorem SC.own {n c : Nat} {A : Option Addr} {l : List UInt8} (h : SC kc F w w1 X t v cl k) (hb : Below w1.heap.size w1 w2) (ho : w2.ownsRow w1.heap.size 5 1 (.slice A n c) n (bs l)) : Ref w2 (Tri F w.heap.size) (A, n, c) l := Ref.of_own ho (fun j hj => h.lt j hj)
end
def crsN (keep : Nat → Int) (s : DS) : Nat → DS
  | 0 => s
  | n + 1 => crs keep n (crsN keep s n)
theorem Ref.cell {w1 : World} {F2 : Nat → Prop} {x : Sl} {l : List UInt8} (h : Ref w1 F2 x l) {b : Nat} (hb : F2 b) (i : Nat) (u : Value) : Ref (w1.setCell ⟨b, i, none⟩ u) F2 x l :=
  h.fr (Fr.setCell (F := fun j => j = b) (p := ⟨b, i, none⟩) (Fr.refl _ _) (.inl rfl) u) (fun j hj => .inl (by rw [hj]; exact hb))
theorem Row.drop0 {w : World} {B : Nat} {b o : Nat} {l : List UInt8} (h : Bytes w B (some ⟨b, o, none⟩) l) (k : Nat) : Bytes w B (some ⟨b, o + k, none⟩) (l.drop k) := by
  have := Bytes.part h k l.length
  rwa [List.take_length] at this
section
variable {w : World} {F : Nat → Prop} {s : DS} {v : Nat → Sl} {cl k : Int}
set_option maxRecDepth 100000 in
set_option maxHeartbeats 8000000 in
theorem rcrash (ok : Ok s) (h : RV w F s v cl k) (hF : ∀ j, F j → j < w.heap.size) (keep : Nat → Int) (hkp : ∀ i, i < 4 → -9223372036854775808 ≤ keep i ∧ keep i ≤ 9223372036854775807) :
    Calls Try.prog 31 #[rval s v cl k, .agg #[.int .i64 (keep 0), .int .i64 (keep 1), .int .i64 (keep 2), .int .i64 (keep 3)]] w (Turned1 F (crashD keep s) w) := by
  obtain ⟨X, hX⟩ : ∃ X, X = rcells s v cl k := ⟨_, rfl⟩
  unfold rval
  rw [← hX]
  have HX := Lib.hid hX
  have hS := SC.start (kc := #[.int .i64 (keep 0), .int .i64 (keep 1), .int .i64 (keep 2), .int .i64 (keep 3)]) h hF (rx_size hX)
  have HOK := Lib.hid ok
  have HKP := Lib.hid hkp
  clear hX h hF ok hkp
  have HR : Hid (crashD keep s = revive (crsN keep s 2)) := Lib.hid (crash_eq keep s)
  go_enter Try.func31, Try.ntmps31
  go_upto_region 1 with fail
  generalize (((w.alloc (.cells X 69)).alloc (.cells #[.int .i64 (keep 0), .int .i64 (keep 1), .int .i64 (keep 2), .int .i64 (keep 3)] 61)).alloc (.cells #[.int .i64 0, .slice none 0 0, .slice none 0 0, .slice none 0 0, .slice none 0 0, .slice none 0 0, .slice none 0 0, .slice none 0 0, .slice none 0 0, .bool false, .int .i64 0, .int .i64 0, .bool false] 69)) = w0 at *
  generalize hkc : (#[.int .i64 (keep 0), .int .i64 (keep 1), .int .i64 (keep 2), .int .i64 (keep 3)] : Array Value) = kc at *
  have HKC := Lib.hid hkc
  have HS := Lib.hid hS
  clear hS hkc
  go_wp2_with fail
  go_loopw [5] (fun i wr => ∃ (j : Nat), j ≤ 2 ∧ i = .int .i64 j ∧ ∃ (t : DS) (X : Array Value) (v : Nat → Sl), Hid (SC kc F w wr X t v cl k) ∧ Hid (X = rcells t v cl k) ∧ Hid (Ok t) ∧ Hid (t = crsN keep s j)) (fun i _ => 2 - (intOf i).toNat)
  case atStart => exact ⟨0, Nat.zero_le _, rfl, _, _, _, HS, HX, HOK, Lib.hid rfl⟩
  case round =>
    obtain ⟨j, hj, rfl, t, X, v, HS, HX, HOKT, HT⟩ := hrel
    rcases (by omega : j = 0 ∨ j = 1 ∨ j = 2) with rfl | rfl | rfl
    all_goals simp only [Int.cast_ofNat_Int]
    · have hlt : (s.all 0 = s.all 0) := rfl
      have hs := HOKT.out.safe 0 (by omega)
      have hlen : (t.all 0).length ≤ 1048576 := by have := HOKT.out.room; have := HOKT.out.cap; omega
      have HL1 := Lib.hid HS.out.rv.a0.len
      have HL2 := Lib.hid HS.out.rv.b0.len
      have HB1 := Lib.hid HS.out.rv.a0.bytes
      have HB2 := Lib.hid HS.out.rv.b0.bytes
      have hm2 : (v 2).2.1 ≤ (v 2).2.2 ∧ (v 2).2.2 ≤ maxLen := ⟨HS.out.rv.b0.le, HS.out.rv.b0.max⟩
      have HL3 := Lib.hid HS.out.rv.c0.len
      have HL4 := Lib.hid HS.out.rv.d0.len
      have h32 : (t.sl 0).length = 32 := HOKT.out.sl 0 (by omega)
      have h4 : (if t.wr 0 then t.lo 0 else []).length ≤ 32 := by cases t.wr 0; simp; simp [HOKT.out.lo 0 (by omega)]
      have hn1 : (v 1).2.1 ≤ 1048576 := by have := HL1.out; rw [List.length_take] at this; omega
      have hn2 : (v 2).2.1 ≤ 1048576 := by have := HL2.out; rw [List.length_drop] at this; omega
      have hn3 : (v 5).2.1 = 32 := by rw [HL3.out, h32]
      have hn4 : (v 6).2.1 ≤ 32 := by rw [HL4.out]; exact h4
      have hm4 : (v 6).2.1 ≤ (v 6).2.2 ∧ (v 6).2.2 ≤ maxLen := ⟨HS.out.rv.d0.le, HS.out.rv.d0.max⟩
      have hc3 : 32 ≤ (v 5).2.2 ∧ (v 5).2.2 ≤ maxLen := ⟨by rw [← hn3]; exact HS.out.rv.c0.le, HS.out.rv.c0.max⟩
      have HNX : Hid (∀ (W : World) (x y : Sl) (xs ys : List UInt8), RV W (Tri F w.heap.size) t v cl k → xs = (t.all 0).take (t.safe 0) ++ ((t.all 0).drop (t.safe 0)).take (min (keep 0).toNat ((t.all 0).drop (t.safe 0)).length) → ys = (if t.wr 0 then t.lo 0 else []).take (min (keep (2 + 0)).toNat (if t.wr 0 then t.lo 0 else []).length) ++ (t.sl 0).drop (min (keep (2 + 0)).toNat (if t.wr 0 then t.lo 0 else []).length) → Ref W (Tri F w.heap.size) x xs → Ref W (Tri F w.heap.size) y ys → RV W (Tri F w.heap.size) (crs keep 0 t) (upd (upd (upd (upd v 1 x) 2 (none, 0, 0)) 5 y) 6 (none, 0, 0)) cl k) := Lib.hid (fun W x y xs ys hr e1 e2 h1 h2 => RV.crs0 HOKT.out hr keep (e1 ▸ h1) (e2 ▸ h2))
      have xa : X[1]? = some (.slice (v 1).1 (v 1).2.1 (v 1).2.2) := by rw [HX.out]; rfl
      have xb : X[2]? = some (.slice (v 2).1 (v 2).2.1 (v 2).2.2) := by rw [HX.out]; rfl
      have xc : X[5]? = some (.slice (v 5).1 (v 5).2.1 (v 5).2.2) := by rw [HX.out]; rfl
      have xd : X[6]? = some (.slice (v 6).1 (v 6).2.1 (v 6).2.2) := by rw [HX.out]; rfl
      have xk : kc[0]? = some (.int .i64 (keep 0)) := by rw [← HKC.out]; rfl
      have xk2 : kc[2]? = some (.int .i64 (keep (2 + 0))) := by rw [← HKC.out]; rfl
      have hk1 := (HKP.out 0 (by omega)).2
      have hk2 := (HKP.out (2 + 0) (by omega)).2
      have HXF : Hid (∀ x y : Sl, (((X.setIfInBounds 1 (.slice x.1 x.2.1 x.2.2)).setIfInBounds 2 (.slice none 0 0)).setIfInBounds 5 (.slice y.1 y.2.1 y.2.2)).setIfInBounds 6 (.slice none 0 0) = rcells (crs keep 0 t) (upd (upd (upd (upd v 1 x) 2 (none, 0, 0)) 5 y) 6 (none, 0, 0)) cl k) := Lib.hid (fun x y => by rw [HX.out]; unfold rcells; rw [(crs_same keep 0 t).1, (crs_same keep 0 t).2.1, (crs_same keep 0 t).2.2]; rfl)
      have HO7 := Lib.hid (crs_ok (keep := keep) HOKT.out (i := 0) (by omega))
      have HE7 : Hid (crs keep 0 t = crsN keep s (1)) := Lib.hid (by show _ = crs keep 0 (crsN keep s 0); rw [← HT.out])
      have HB3 := Lib.hid HS.out.rv.c0.bytes
      have HB4 := Lib.hid HS.out.rv.d0.bytes
      clear hlt hs hlen h32 h4
      generalize (t.all 0).take (t.safe 0) = l1 at *
      generalize (t.all 0).drop (t.safe 0) = l2 at *
      generalize hl4 : (if t.wr 0 then t.lo 0 else []) = l4 at *
      generalize hl3 : t.sl 0 = l3 at *
      generalize keep 0 = ka at *
      generalize keep (2 + 0) = kb2 at *
      generalize v 1 = y1 at *
      generalize v 2 = y2 at *
      generalize hy3 : v 5 = y3 at *
      generalize hy4 : v 6 = y4 at *
      obtain ⟨A1, n1, c1⟩ := y1
      obtain ⟨A2, n2, c2⟩ := y2
      obtain ⟨A3, n3, c3⟩ := y3
      obtain ⟨A4, n4, c4⟩ := y4
      simp only at HL1 HL2 HB1 HB2 hm2 HL3 HL4 hn1 hn2 hn3 hn4 hm4 hc3 xa xb xc xd HB3 HB4
      subst hn3
      have HV3 := Lib.hid hy3
      have HV4 := Lib.hid hy4
      have HE3 := Lib.hid hl3
      have HE4 := Lib.hid hl4
      clear hy3 hy4 hl3 hl4 HB3 HB4
      obtain ⟨q1, hq1⟩ : ∃ q1, q1 = min ka.toNat n2 := ⟨_, rfl⟩
      obtain ⟨q2, hq2⟩ : ∃ q2, q2 = min kb2.toNat n4 := ⟨_, rfl⟩
      have hq1n : q1 ≤ n2 := by omega
      have hq2n : q2 ≤ n4 := by omega
      have HT1 : Hid (q1 = (l2.take q1).length) := Lib.hid (by rw [List.length_take, ← HL2.out]; omega)
      have HT2 : Hid (q2 = (l4.take q2).length) := Lib.hid (by rw [List.length_take, ← HL4.out]; omega)
      have HE1 : Hid (l1 ++ l2.take q1 = l1 ++ l2.take (min ka.toNat l2.length)) := Lib.hid (by rw [← HL2.out, ← hq1])
      have HE2 : Hid (l4.take q2 ++ l3.drop q2 = l4.take (min kb2.toNat l4.length) ++ l3.drop (min kb2.toNat l4.length)) := Lib.hid (by rw [← HL4.out, ← hq2])
      have HC1 := Lib.hid (some_any (w := wr.drew) A2 n2 c2 ka hm2.1 hm2.2 hk1)
      rw [← hq1] at HC1
      have HC2 := Lib.hid (join_any (w := wr.drew) (B := wr.heap.size) (Nat.le_refl _) A1 A2 c1 c2 l1 (l2.take q1) n1 q1 HL1.out HT1.out (by omega) (by omega) HB1.out (Bytes.head HB2.out q1))
      have HC3 := Lib.hid (fun (W : World) => some_any (w := W) A4 n4 c4 kb2 hm4.1 hm4.2 hk2)
      rw [← hq2] at HC3
      clear hq1 hq2 hk1 hk2 HL1 HL2 HB1 HB2 HT1 hm2 hm4
      go_wp2_with fail
      refine wp_region_heldG [19] (fun cc W => cc 19 = true ∨ (Blk W w.heap.size 69 X ∧ Blk W (w.heap.size + 1) 61 kc)) (by kernel_rfl) ?_
      change wpAnyG _ _ _ _ _ _ 20 _ _ (World.drew _)
      have HS5 := Lib.hid HS.out.drew
      have hS : (false = true) ∨ (Blk wr.drew w.heap.size 69 X ∧ Blk wr.drew (w.heap.size + 1) 61 kc) := .inr ⟨HS5.out.box, HS5.out.kept⟩
      clear HS
      -- take0 take1 take2 take3 take4 take5 take6 take7 take8 take9 take10 take11 take12 take13 take17 one14 one15 one16 take18 one19 done
      refine g_take (i := 0) rfl rfl (by kernel_rfl) (by kernel_rfl) (by kernel_rfl) (by kernel_rfl) (by kernel_rfl) (fun _ _ _ h => h) hS (fun L W hL hW => by go_simp; rfl) ?_
      refine g_take (i := 1) rfl rfl (by kernel_rfl) (by kernel_rfl) (by kernel_rfl) (by kernel_rfl) (by kernel_rfl) (fun _ _ _ h => h) hS (fun L W hL hW => by go_simp; rfl) ?_
      refine g_take (i := 2) rfl rfl (by kernel_rfl) (by kernel_rfl) (by kernel_rfl) (by kernel_rfl) (by kernel_rfl) (fun _ _ _ h => h) hS (fun L W hL hW => by go_simp; rfl) ?_
      refine g_take (i := 3) rfl rfl (by kernel_rfl) (by kernel_rfl) (by kernel_rfl) (by kernel_rfl) (by kernel_rfl) (fun _ _ _ h => h) hS (fun L W hL hW => by go_simp; rfl) ?_
      refine g_take (i := 4) rfl rfl (by kernel_rfl) (by kernel_rfl) (by kernel_rfl) (by kernel_rfl) (by kernel_rfl) (fun _ _ _ h => h) hS (fun L W hL hW => by go_simp; rfl) ?_
      refine g_take (i := 5) rfl rfl (by kernel_rfl) (by kernel_rfl) (by kernel_rfl) (by kernel_rfl) (by kernel_rfl) (fun _ _ _ h => h) hS (fun L W hL hW => by obtain ⟨q, q2⟩ := (hW.resolve_left (by simp [came, hL 19 (by kernel_rfl)])); have q3 := q.at_ 1 xa; have q4 := q.at_ 2 xb; have q5 := q2.at_ 0 xk; go_simp; rfl) ?_
      refine g_take (i := 6) rfl rfl (by kernel_rfl) (by kernel_rfl) (by kernel_rfl) (by kernel_rfl) (by kernel_rfl) (fun _ _ _ h => h) hS (fun L W hL hW => by go_simp; rfl) ?_
      refine g_take (i := 7) rfl rfl (by kernel_rfl) (by kernel_rfl) (by kernel_rfl) (by kernel_rfl) (by kernel_rfl) (fun _ _ _ h => h) hS (fun L W hL hW => by go_simp; rfl) ?_
      refine g_take (i := 8) rfl rfl (by kernel_rfl) (by kernel_rfl) (by kernel_rfl) (by kernel_rfl) (by kernel_rfl) (fun _ _ _ h => h) hS (fun L W hL hW => by go_simp; rfl) ?_
      refine g_take (i := 9) rfl rfl (by kernel_rfl) (by kernel_rfl) (by kernel_rfl) (by kernel_rfl) (by kernel_rfl) (fun _ _ _ h => h) hS (fun L W hL hW => by go_simp; rfl) ?_
      refine g_take (i := 10) rfl rfl (by kernel_rfl) (by kernel_rfl) (by kernel_rfl) (by kernel_rfl) (by kernel_rfl) (fun _ _ _ h => h) hS (fun L W hL hW => by obtain ⟨q, q2⟩ := (hW.resolve_left (by simp [came, hL 19 (by kernel_rfl)])); have q3 := q.at_ 1 xa; have q4 := q.at_ 2 xb; have q5 := q2.at_ 0 xk; go_simp; rfl) ?_
      refine g_take (i := 11) rfl rfl (by kernel_rfl) (by kernel_rfl) (by kernel_rfl) (by kernel_rfl) (by kernel_rfl) (fun _ _ _ h => h) hS (fun L W hL hW => by go_simp; rfl) ?_
      refine g_take (i := 12) rfl rfl (by kernel_rfl) (by kernel_rfl) (by kernel_rfl) (by kernel_rfl) (by kernel_rfl) (fun _ _ _ h => h) hS (fun L W hL hW => by go_simp; rfl) ?_
      refine g_take (i := 13) rfl rfl (by kernel_rfl) (by kernel_rfl) (by kernel_rfl) (by kernel_rfl) (by kernel_rfl) (fun _ _ _ h => h) hS (fun L W hL hW => by obtain ⟨q, q2⟩ := (hW.resolve_left (by simp [came, hL 19 (by kernel_rfl)])); have q3 := q.at_ 1 xa; have q4 := q.at_ 2 xb; have q5 := q2.at_ 0 xk; go_simp; rfl) ?_
      refine g_take (i := 17) rfl rfl (by kernel_rfl) (by kernel_rfl) (by kernel_rfl) (by kernel_rfl) (by kernel_rfl) (fun _ _ _ h => h) hS (fun L W hL hW => by go_simp; rfl) ?_
      refine g_one (i := 14) rfl rfl (by kernel_rfl) fun K hK => ?_
      go_simp
      refine Calls.mono HC1.out ?_
      rintro e y1 ⟨rfl, rfl⟩
      refine hK _ _ hS ?_
      clear hK K
      refine g_one (i := 15) rfl rfl (by kernel_rfl) fun K hK => ?_
      go_simp
      refine Calls.mono HC2.out ?_
      rintro e w5 ⟨u, rfl, hown, hb5⟩
      generalize (l1 ++ l2.take q1).length = n5 at hown
      obtain ⟨A5, c5, hu⟩ := own_form hown
      subst hu
      have HREF1 := Lib.hid (HS5.out.own hb5 hown)
      have HS6 := Lib.hid (HS5.out.below hb5)
      clear hown hb5
      have hS : (false = true) ∨ (Blk w5 w.heap.size 69 X ∧ Blk w5 (w.heap.size + 1) 61 kc) := .inr ⟨HS6.out.box, HS6.out.kept⟩
      refine hK _ _ hS ?_
      clear hK K
      refine g_one (i := 16) rfl rfl (by kernel_rfl) fun K hK => ?_
      go_simp
      refine hK _ _ hS ?_
      clear hK K
      refine g_take (i := 18) rfl rfl (by kernel_rfl) (by kernel_rfl) (by kernel_rfl) (by kernel_rfl) (by kernel_rfl) (fun _ _ _ h => h) hS (fun L W hL hW => by go_simp; rfl) ?_
      refine g_one (i := 19) rfl rfl (by kernel_rfl) fun K hK => ?_
      have qa := HS6.out.box.at_ 1 xa
      have qb := HS6.out.box.at_ 2 xb
      have qf := HS6.out.box.frozen 1
      have qg := HS6.out.box.frozen 2
      go_simp
      refine hK _ _ (.inl rfl) ?_
      clear hK K qa qb qf qg
      refine wpAnyG_done (by kernel_rfl) ?_ _
      go_simp
      have HS7 := Lib.hid ((HS6.out.cell 1 (.slice A5 n5 c5)).cell 2 (.slice none 0 0))
      have HREF7 := Lib.hid ((HREF1.out.cell (.inr ⟨Nat.le_refl _, by omega⟩) 1 (.slice A5 n5 c5)).cell (.inr ⟨Nat.le_refl w.heap.size, by omega⟩) 2 (.slice none 0 0))
      have xc7 : ((X.setIfInBounds 1 (.slice A5 n5 c5)).setIfInBounds 2 (.slice none 0 0))[5]? = some (.slice A3 32 c3) := (Array.getElem?_setIfInBounds_ne (by decide)).trans ((Array.getElem?_setIfInBounds_ne (by decide)).trans xc)
      have xd7 : ((X.setIfInBounds 1 (.slice A5 n5 c5)).setIfInBounds 2 (.slice none 0 0))[6]? = some (.slice A4 n4 c4) := (Array.getElem?_setIfInBounds_ne (by decide)).trans ((Array.getElem?_setIfInBounds_ne (by decide)).trans xd)
      have HXG := Lib.hid (fun y => HXF.out (A5, n5, c5) y)
      clear HS6 HREF1 xc xd xa xb HXF HC1 HC2 HS5
      generalize (X.setIfInBounds 1 (.slice A5 n5 c5)).setIfInBounds 2 (.slice none 0 0) = X7 at *
      generalize (w5.setCell ⟨w.heap.size, 1, none⟩ (.slice A5 n5 c5)).setCell ⟨w.heap.size, 2, none⟩ (.slice none 0 0) = w7 at *
      have z1 : IntKind.i64.wrap (2 + 0 : Int) = 2 := IntWalk.i64_in _ (by omega)
      have z2 : (IntKind.i64.wrap (2 : Int)) = 2 := IntWalk.i64_in _ (by omega)
      go_wp2_with fail
      refine wp_region_heldG [] (fun cc W => Blk W w.heap.size 69 X7 ∧ Blk W (w.heap.size + 1) 61 kc) (by kernel_rfl) ?_
      change wpAnyG _ _ _ _ _ _ 11 _ _ (World.drew _)
      have HS8 := Lib.hid HS7.out.drew
      have HREF8 := Lib.hid (HREF7.out.below ((Below.refl _ w7).drew))
      have hS : Blk w7.drew w.heap.size 69 X7 ∧ Blk w7.drew (w.heap.size + 1) 61 kc := ⟨HS8.out.box, HS8.out.kept⟩
      clear HS7 HREF7
      generalize w7.drew = w8 at *
      -- take0 take1 take2 take3 take4 take5 take6 take7 take8 one9 take10 done
      refine g_take (i := 0) rfl rfl (by kernel_rfl) (by kernel_rfl) (by kernel_rfl) (by kernel_rfl) (by kernel_rfl) (fun _ _ _ h => h) hS (fun L W hL hW => by go_simp; rfl) ?_
      refine g_take (i := 1) rfl rfl (by kernel_rfl) (by kernel_rfl) (by kernel_rfl) (by kernel_rfl) (by kernel_rfl) (fun _ _ _ h => h) hS (fun L W hL hW => by go_simp; rfl) ?_
      refine g_take (i := 2) rfl rfl (by kernel_rfl) (by kernel_rfl) (by kernel_rfl) (by kernel_rfl) (by kernel_rfl) (fun _ _ _ h => h) hS (fun L W hL hW => by go_simp; rfl) ?_
      refine g_take (i := 3) rfl rfl (by kernel_rfl) (by kernel_rfl) (by kernel_rfl) (by kernel_rfl) (by kernel_rfl) (fun _ _ _ h => h) hS (fun L W hL hW => by go_simp; rfl) ?_
      refine g_take (i := 4) rfl rfl (by kernel_rfl) (by kernel_rfl) (by kernel_rfl) (by kernel_rfl) (by kernel_rfl) (fun _ _ _ h => h) hS (fun L W hL hW => by obtain ⟨q, q2⟩ := hW; have q3 := q.at_ 6 xd7; have q4 := q2.at_ 2 xk2; go_simp; rfl) ?_
      refine g_take (i := 5) rfl rfl (by kernel_rfl) (by kernel_rfl) (by kernel_rfl) (by kernel_rfl) (by kernel_rfl) (fun _ _ _ h => h) hS (fun L W hL hW => by go_simp; rfl) ?_
      refine g_take (i := 6) rfl rfl (by kernel_rfl) (by kernel_rfl) (by kernel_rfl) (by kernel_rfl) (by kernel_rfl) (fun _ _ _ h => h) hS (fun L W hL hW => by go_simp; rfl) ?_
      refine g_take (i := 7) rfl rfl (by kernel_rfl) (by kernel_rfl) (by kernel_rfl) (by kernel_rfl) (by kernel_rfl) (fun _ _ _ h => h) hS (fun L W hL hW => by go_simp; rfl) ?_
      refine g_take (i := 8) rfl rfl (by kernel_rfl) (by kernel_rfl) (by kernel_rfl) (by kernel_rfl) (by kernel_rfl) (fun _ _ _ h => h) hS (fun L W hL hW => by obtain ⟨q, q2⟩ := hW; have q3 := q.at_ 6 xd7; have q4 := q2.at_ 2 xk2; go_simp; rfl) ?_
      refine g_one (i := 9) rfl rfl (by kernel_rfl) fun K hK => ?_
      go_simp
      refine Calls.mono (HC3.out _) ?_
      rintro e y1 ⟨rfl, rfl⟩
      refine hK _ _ hS ?_
      clear hK K
      refine g_take (i := 10) rfl rfl (by kernel_rfl) (by kernel_rfl) (by kernel_rfl) (by kernel_rfl) (by kernel_rfl) (fun _ _ _ h => h) hS (fun L W hL hW => by go_simp; rfl) ?_
      refine wpAnyG_done (by kernel_rfl) ?_ _
      go_simp
      clear z1 z2 hS
      have hb3 : Bytes w8 w8.heap.size A3 l3 := by have h9 := HS8.out.rv.c0.bytes; rw [HV3.out, HE3.out] at h9; exact h9
      have hb4 : Bytes w8 w8.heap.size A4 l4 := by have h9 := HS8.out.rv.d0.bytes; rw [HV4.out, HE4.out] at h9; exact h9
      obtain ⟨b3, o3, rfl, -, -⟩ := hb3.at_ (j := 0) (by rw [← HL3.out]; omega)
      have HQ4 := Lib.hid (Bytes.head hb4 q2)
      have qc := HS8.out.box.at_ 5 xc7
      unfold maxLen at hc3
      obtain ⟨hc3a, hc3b⟩ := hc3
      have u6 : (q2 : Int) ≤ 32 := by omega
      by_cases hcap : c3 = q2
      · obtain rfl : q2 = 32 := by omega
        obtain rfl : c3 = 32 := by omega
        have HC4 := Lib.hid (join_any (w := w8) (B := w8.heap.size) (Nat.le_refl _) A4 (some ⟨b3, o3, none⟩) c4 0 (l4.take 32) (l3.drop 32) 32 0 HT2.out (by rw [List.length_drop, ← HL3.out]) (by omega) (by omega) HQ4.out (by rw [List.drop_of_length_le (by rw [← HL3.out]; exact Nat.le_refl _)]; exact Row.nil))
        clear hb3 hb4
        go_wp2_with fail
        refine Calls.mono HC4.out ?_
        rintro e w9 ⟨u, rfl, hown, hb9⟩
        generalize (l4.take 32 ++ l3.drop 32).length = n6 at hown
        obtain ⟨A6, c6, hu⟩ := own_form hown
        subst hu
        have HREF9 := Lib.hid (HS8.out.own hb9 hown)
        have HREF1 := Lib.hid (HREF8.out.below hb9)
        have HS9 := Lib.hid (HS8.out.below hb9)
        clear hown hb9 HC4 HS8 HREF8 HQ4 qc
        have qa := HS9.out.box.at_ 5 xc7
        have qb := HS9.out.box.at_ 6 xd7
        have qf := HS9.out.box.frozen (5 )
        have qg := HS9.out.box.frozen 6
        have HX12 := Lib.hid (HXG.out (A6, n6, c6))
        have HS12 := Lib.hid (((HS9.out.re (HNX.out w9 (A5, n5, c5) (A6, n6, c6) _ _ HS9.out.rv HE1.out HE2.out HREF1.out HREF9.out)).cell 5 (.slice A6 n6 c6)).cell 6 (.slice none 0 0))
        clear HS9 HREF1 HREF9 HNX HXG
        simp only at HX12
        go_wp2_with fail
        clear qa qb qf qg
        generalize (X7.setIfInBounds 5 (.slice A6 n6 c6)).setIfInBounds 6 (.slice none 0 0) = X12 at *
        generalize (w9.setCell ⟨w.heap.size, 5, none⟩ (.slice A6 n6 c6)).setCell ⟨w.heap.size, 6, none⟩ (.slice none 0 0) = w12 at *
        go_roundw
        case rel => exact ⟨1, by omega, rfl, _, _, _, HS12, HX12, HO7, HE7⟩
        case measure => simp [intOf]
      · have HC4 := Lib.hid (join_any (w := w8) (B := w8.heap.size) (Nat.le_refl _) A4 (some ⟨b3, o3 + q2, none⟩) c4 (c3 - q2) (l4.take q2) (l3.drop q2) q2 (32 - q2) HT2.out (by rw [List.length_drop, ← HL3.out]) (by omega) (by omega) HQ4.out (Row.drop0 hb3 q2))
        clear hb3 hb4
        go_wp2_with fail
        refine Calls.mono HC4.out ?_
        rintro e w9 ⟨u, rfl, hown, hb9⟩
        generalize (l4.take q2 ++ l3.drop q2).length = n6 at hown
        obtain ⟨A6, c6, hu⟩ := own_form hown
        subst hu
        have HREF9 := Lib.hid (HS8.out.own hb9 hown)
        have HREF1 := Lib.hid (HREF8.out.below hb9)
        have HS9 := Lib.hid (HS8.out.below hb9)
        clear hown hb9 HC4 HS8 HREF8 HQ4 qc
        have qa := HS9.out.box.at_ 5 xc7
        have qb := HS9.out.box.at_ 6 xd7
        have qf := HS9.out.box.frozen (5 )
        have qg := HS9.out.box.frozen 6
        have HX12 := Lib.hid (HXG.out (A6, n6, c6))
        have HS12 := Lib.hid (((HS9.out.re (HNX.out w9 (A5, n5, c5) (A6, n6, c6) _ _ HS9.out.rv HE1.out HE2.out HREF1.out HREF9.out)).cell 5 (.slice A6 n6 c6)).cell 6 (.slice none 0 0))
        clear HS9 HREF1 HREF9 HNX HXG
        simp only at HX12
        go_wp2_with fail
        clear qa qb qf qg
        generalize (X7.setIfInBounds 5 (.slice A6 n6 c6)).setIfInBounds 6 (.slice none 0 0) = X12 at *
        generalize (w9.setCell ⟨w.heap.size, 5, none⟩ (.slice A6 n6 c6)).setCell ⟨w.heap.size, 6, none⟩ (.slice none 0 0) = w12 at *
        go_roundw
        case rel => exact ⟨1, by omega, rfl, _, _, _, HS12, HX12, HO7, HE7⟩
        case measure => simp [intOf]
    · have hlt : (s.all 1 = s.all 1) := rfl
      have hs := HOKT.out.safe 1 (by omega)
      have hlen : (t.all 1).length ≤ 1048576 := by have := HOKT.out.room; have := HOKT.out.cap; omega
      have HL1 := Lib.hid HS.out.rv.a1.len
      have HL2 := Lib.hid HS.out.rv.b1.len
      have HB1 := Lib.hid HS.out.rv.a1.bytes
      have HB2 := Lib.hid HS.out.rv.b1.bytes
      have hm2 : (v 4).2.1 ≤ (v 4).2.2 ∧ (v 4).2.2 ≤ maxLen := ⟨HS.out.rv.b1.le, HS.out.rv.b1.max⟩
      have HL3 := Lib.hid HS.out.rv.c1.len
      have HL4 := Lib.hid HS.out.rv.d1.len
      have h32 : (t.sl 1).length = 32 := HOKT.out.sl 1 (by omega)
      have h4 : (if t.wr 1 then t.lo 1 else []).length ≤ 32 := by cases t.wr 1; simp; simp [HOKT.out.lo 1 (by omega)]
      have hn1 : (v 3).2.1 ≤ 1048576 := by have := HL1.out; rw [List.length_take] at this; omega
      have hn2 : (v 4).2.1 ≤ 1048576 := by have := HL2.out; rw [List.length_drop] at this; omega
      have hn3 : (v 7).2.1 = 32 := by rw [HL3.out, h32]
      have hn4 : (v 8).2.1 ≤ 32 := by rw [HL4.out]; exact h4
      have hm4 : (v 8).2.1 ≤ (v 8).2.2 ∧ (v 8).2.2 ≤ maxLen := ⟨HS.out.rv.d1.le, HS.out.rv.d1.max⟩
      have hc3 : 32 ≤ (v 7).2.2 ∧ (v 7).2.2 ≤ maxLen := ⟨by rw [← hn3]; exact HS.out.rv.c1.le, HS.out.rv.c1.max⟩
      have HNX : Hid (∀ (W : World) (x y : Sl) (xs ys : List UInt8), RV W (Tri F w.heap.size) t v cl k → xs = (t.all 1).take (t.safe 1) ++ ((t.all 1).drop (t.safe 1)).take (min (keep 1).toNat ((t.all 1).drop (t.safe 1)).length) → ys = (if t.wr 1 then t.lo 1 else []).take (min (keep (2 + 1)).toNat (if t.wr 1 then t.lo 1 else []).length) ++ (t.sl 1).drop (min (keep (2 + 1)).toNat (if t.wr 1 then t.lo 1 else []).length) → Ref W (Tri F w.heap.size) x xs → Ref W (Tri F w.heap.size) y ys → RV W (Tri F w.heap.size) (crs keep 1 t) (upd (upd (upd (upd v 3 x) 4 (none, 0, 0)) 7 y) 8 (none, 0, 0)) cl k) := Lib.hid (fun W x y xs ys hr e1 e2 h1 h2 => RV.crs1 HOKT.out hr keep (e1 ▸ h1) (e2 ▸ h2))
      have xa : X[3]? = some (.slice (v 3).1 (v 3).2.1 (v 3).2.2) := by rw [HX.out]; rfl
      have xb : X[4]? = some (.slice (v 4).1 (v 4).2.1 (v 4).2.2) := by rw [HX.out]; rfl
      have xc : X[7]? = some (.slice (v 7).1 (v 7).2.1 (v 7).2.2) := by rw [HX.out]; rfl
      have xd : X[8]? = some (.slice (v 8).1 (v 8).2.1 (v 8).2.2) := by rw [HX.out]; rfl
      have xk : kc[1]? = some (.int .i64 (keep 1)) := by rw [← HKC.out]; rfl
      have xk2 : kc[3]? = some (.int .i64 (keep (2 + 1))) := by rw [← HKC.out]; rfl
      have hk1 := (HKP.out 1 (by omega)).2
      have hk2 := (HKP.out (2 + 1) (by omega)).2
      have HXF : Hid (∀ x y : Sl, (((X.setIfInBounds 3 (.slice x.1 x.2.1 x.2.2)).setIfInBounds 4 (.slice none 0 0)).setIfInBounds 7 (.slice y.1 y.2.1 y.2.2)).setIfInBounds 8 (.slice none 0 0) = rcells (crs keep 1 t) (upd (upd (upd (upd v 3 x) 4 (none, 0, 0)) 7 y) 8 (none, 0, 0)) cl k) := Lib.hid (fun x y => by rw [HX.out]; unfold rcells; rw [(crs_same keep 1 t).1, (crs_same keep 1 t).2.1, (crs_same keep 1 t).2.2]; rfl)
      have HO7 := Lib.hid (crs_ok (keep := keep) HOKT.out (i := 1) (by omega))
      have HE7 : Hid (crs keep 1 t = crsN keep s (2)) := Lib.hid (by show _ = crs keep 1 (crsN keep s 1); rw [← HT.out])
      have HB3 := Lib.hid HS.out.rv.c1.bytes
      have HB4 := Lib.hid HS.out.rv.d1.bytes
      clear hlt hs hlen h32 h4
      generalize (t.all 1).take (t.safe 1) = l1 at *
      generalize (t.all 1).drop (t.safe 1) = l2 at *
      generalize hl4 : (if t.wr 1 then t.lo 1 else []) = l4 at *
      generalize hl3 : t.sl 1 = l3 at *
      generalize keep 1 = ka at *
      generalize keep (2 + 1) = kb2 at *
      generalize v 3 = y1 at *
      generalize v 4 = y2 at *
      generalize hy3 : v 7 = y3 at *
      generalize hy4 : v 8 = y4 at *
      obtain ⟨A1, n1, c1⟩ := y1
      obtain ⟨A2, n2, c2⟩ := y2
      obtain ⟨A3, n3, c3⟩ := y3
      obtain ⟨A4, n4, c4⟩ := y4
      simp only at HL1 HL2 HB1 HB2 hm2 HL3 HL4 hn1 hn2 hn3 hn4 hm4 hc3 xa xb xc xd HB3 HB4
      subst hn3
      have HV3 := Lib.hid hy3
      have HV4 := Lib.hid hy4
      have HE3 := Lib.hid hl3
      have HE4 := Lib.hid hl4
      clear hy3 hy4 hl3 hl4 HB3 HB4
      obtain ⟨q1, hq1⟩ : ∃ q1, q1 = min ka.toNat n2 := ⟨_, rfl⟩
      obtain ⟨q2, hq2⟩ : ∃ q2, q2 = min kb2.toNat n4 := ⟨_, rfl⟩
      have hq1n : q1 ≤ n2 := by omega
      have hq2n : q2 ≤ n4 := by omega
      have HT1 : Hid (q1 = (l2.take q1).length) := Lib.hid (by rw [List.length_take, ← HL2.out]; omega)
      have HT2 : Hid (q2 = (l4.take q2).length) := Lib.hid (by rw [List.length_take, ← HL4.out]; omega)
      have HE1 : Hid (l1 ++ l2.take q1 = l1 ++ l2.take (min ka.toNat l2.length)) := Lib.hid (by rw [← HL2.out, ← hq1])
      have HE2 : Hid (l4.take q2 ++ l3.drop q2 = l4.take (min kb2.toNat l4.length) ++ l3.drop (min kb2.toNat l4.length)) := Lib.hid (by rw [← HL4.out, ← hq2])
      have HC1 := Lib.hid (some_any (w := wr.drew) A2 n2 c2 ka hm2.1 hm2.2 hk1)
      rw [← hq1] at HC1
      have HC2 := Lib.hid (join_any (w := wr.drew) (B := wr.heap.size) (Nat.le_refl _) A1 A2 c1 c2 l1 (l2.take q1) n1 q1 HL1.out HT1.out (by omega) (by omega) HB1.out (Bytes.head HB2.out q1))
      have HC3 := Lib.hid (fun (W : World) => some_any (w := W) A4 n4 c4 kb2 hm4.1 hm4.2 hk2)
      rw [← hq2] at HC3
      clear hq1 hq2 hk1 hk2 HL1 HL2 HB1 HB2 HT1 hm2 hm4
      go_wp2_with fail
      refine wp_region_heldG [19] (fun cc W => cc 19 = true ∨ (Blk W w.heap.size 69 X ∧ Blk W (w.heap.size + 1) 61 kc)) (by kernel_rfl) ?_
      change wpAnyG _ _ _ _ _ _ 20 _ _ (World.drew _)
      have HS5 := Lib.hid HS.out.drew
      have hS : (false = true) ∨ (Blk wr.drew w.heap.size 69 X ∧ Blk wr.drew (w.heap.size + 1) 61 kc) := .inr ⟨HS5.out.box, HS5.out.kept⟩
      clear HS
      -- take0 take1 take2 take3 take4 take5 take6 take7 take8 take9 take10 take11 take12 take13 take17 one14 one15 one16 take18 one19 done
      refine g_take (i := 0) rfl rfl (by kernel_rfl) (by kernel_rfl) (by kernel_rfl) (by kernel_rfl) (by kernel_rfl) (fun _ _ _ h => h) hS (fun L W hL hW => by go_simp; rfl) ?_
      refine g_take (i := 1) rfl rfl (by kernel_rfl) (by kernel_rfl) (by kernel_rfl) (by kernel_rfl) (by kernel_rfl) (fun _ _ _ h => h) hS (fun L W hL hW => by go_simp; rfl) ?_
      refine g_take (i := 2) rfl rfl (by kernel_rfl) (by kernel_rfl) (by kernel_rfl) (by kernel_rfl) (by kernel_rfl) (fun _ _ _ h => h) hS (fun L W hL hW => by go_simp; rfl) ?_
      refine g_take (i := 3) rfl rfl (by kernel_rfl) (by kernel_rfl) (by kernel_rfl) (by kernel_rfl) (by kernel_rfl) (fun _ _ _ h => h) hS (fun L W hL hW => by go_simp; rfl) ?_
      refine g_take (i := 4) rfl rfl (by kernel_rfl) (by kernel_rfl) (by kernel_rfl) (by kernel_rfl) (by kernel_rfl) (fun _ _ _ h => h) hS (fun L W hL hW => by go_simp; rfl) ?_
      refine g_take (i := 5) rfl rfl (by kernel_rfl) (by kernel_rfl) (by kernel_rfl) (by kernel_rfl) (by kernel_rfl) (fun _ _ _ h => h) hS (fun L W hL hW => by obtain ⟨q, q2⟩ := (hW.resolve_left (by simp [came, hL 19 (by kernel_rfl)])); have q3 := q.at_ 3 xa; have q4 := q.at_ 4 xb; have q5 := q2.at_ 1 xk; go_simp; rfl) ?_
      refine g_take (i := 6) rfl rfl (by kernel_rfl) (by kernel_rfl) (by kernel_rfl) (by kernel_rfl) (by kernel_rfl) (fun _ _ _ h => h) hS (fun L W hL hW => by go_simp; rfl) ?_
      refine g_take (i := 7) rfl rfl (by kernel_rfl) (by kernel_rfl) (by kernel_rfl) (by kernel_rfl) (by kernel_rfl) (fun _ _ _ h => h) hS (fun L W hL hW => by go_simp; rfl) ?_
      refine g_take (i := 8) rfl rfl (by kernel_rfl) (by kernel_rfl) (by kernel_rfl) (by kernel_rfl) (by kernel_rfl) (fun _ _ _ h => h) hS (fun L W hL hW => by go_simp; rfl) ?_
      refine g_take (i := 9) rfl rfl (by kernel_rfl) (by kernel_rfl) (by kernel_rfl) (by kernel_rfl) (by kernel_rfl) (fun _ _ _ h => h) hS (fun L W hL hW => by go_simp; rfl) ?_
      refine g_take (i := 10) rfl rfl (by kernel_rfl) (by kernel_rfl) (by kernel_rfl) (by kernel_rfl) (by kernel_rfl) (fun _ _ _ h => h) hS (fun L W hL hW => by obtain ⟨q, q2⟩ := (hW.resolve_left (by simp [came, hL 19 (by kernel_rfl)])); have q3 := q.at_ 3 xa; have q4 := q.at_ 4 xb; have q5 := q2.at_ 1 xk; go_simp; rfl) ?_
      refine g_take (i := 11) rfl rfl (by kernel_rfl) (by kernel_rfl) (by kernel_rfl) (by kernel_rfl) (by kernel_rfl) (fun _ _ _ h => h) hS (fun L W hL hW => by go_simp; rfl) ?_
      refine g_take (i := 12) rfl rfl (by kernel_rfl) (by kernel_rfl) (by kernel_rfl) (by kernel_rfl) (by kernel_rfl) (fun _ _ _ h => h) hS (fun L W hL hW => by go_simp; rfl) ?_
      refine g_take (i := 13) rfl rfl (by kernel_rfl) (by kernel_rfl) (by kernel_rfl) (by kernel_rfl) (by kernel_rfl) (fun _ _ _ h => h) hS (fun L W hL hW => by obtain ⟨q, q2⟩ := (hW.resolve_left (by simp [came, hL 19 (by kernel_rfl)])); have q3 := q.at_ 3 xa; have q4 := q.at_ 4 xb; have q5 := q2.at_ 1 xk; go_simp; rfl) ?_
      refine g_take (i := 17) rfl rfl (by kernel_rfl) (by kernel_rfl) (by kernel_rfl) (by kernel_rfl) (by kernel_rfl) (fun _ _ _ h => h) hS (fun L W hL hW => by go_simp; rfl) ?_
      refine g_one (i := 14) rfl rfl (by kernel_rfl) fun K hK => ?_
      go_simp
      refine Calls.mono HC1.out ?_
      rintro e y1 ⟨rfl, rfl⟩
      refine hK _ _ hS ?_
      clear hK K
      refine g_one (i := 15) rfl rfl (by kernel_rfl) fun K hK => ?_
      go_simp
      refine Calls.mono HC2.out ?_
      rintro e w5 ⟨u, rfl, hown, hb5⟩
      generalize (l1 ++ l2.take q1).length = n5 at hown
      obtain ⟨A5, c5, hu⟩ := own_form hown
      subst hu
      have HREF1 := Lib.hid (HS5.out.own hb5 hown)
      have HS6 := Lib.hid (HS5.out.below hb5)
      clear hown hb5
      have hS : (false = true) ∨ (Blk w5 w.heap.size 69 X ∧ Blk w5 (w.heap.size + 1) 61 kc) := .inr ⟨HS6.out.box, HS6.out.kept⟩
      refine hK _ _ hS ?_
      clear hK K
      refine g_one (i := 16) rfl rfl (by kernel_rfl) fun K hK => ?_
      go_simp
      refine hK _ _ hS ?_
      clear hK K
      refine g_take (i := 18) rfl rfl (by kernel_rfl) (by kernel_rfl) (by kernel_rfl) (by kernel_rfl) (by kernel_rfl) (fun _ _ _ h => h) hS (fun L W hL hW => by go_simp; rfl) ?_
      refine g_one (i := 19) rfl rfl (by kernel_rfl) fun K hK => ?_
      have qa := HS6.out.box.at_ 3 xa
      have qb := HS6.out.box.at_ 4 xb
      have qf := HS6.out.box.frozen 3
      have qg := HS6.out.box.frozen 4
      go_simp
      refine hK _ _ (.inl rfl) ?_
      clear hK K qa qb qf qg
      refine wpAnyG_done (by kernel_rfl) ?_ _
      go_simp
      have HS7 := Lib.hid ((HS6.out.cell 3 (.slice A5 n5 c5)).cell 4 (.slice none 0 0))
      have HREF7 := Lib.hid ((HREF1.out.cell (.inr ⟨Nat.le_refl _, by omega⟩) 3 (.slice A5 n5 c5)).cell (.inr ⟨Nat.le_refl w.heap.size, by omega⟩) 4 (.slice none 0 0))
      have xc7 : ((X.setIfInBounds 3 (.slice A5 n5 c5)).setIfInBounds 4 (.slice none 0 0))[7]? = some (.slice A3 32 c3) := (Array.getElem?_setIfInBounds_ne (by decide)).trans ((Array.getElem?_setIfInBounds_ne (by decide)).trans xc)
      have xd7 : ((X.setIfInBounds 3 (.slice A5 n5 c5)).setIfInBounds 4 (.slice none 0 0))[8]? = some (.slice A4 n4 c4) := (Array.getElem?_setIfInBounds_ne (by decide)).trans ((Array.getElem?_setIfInBounds_ne (by decide)).trans xd)
      have HXG := Lib.hid (fun y => HXF.out (A5, n5, c5) y)
      clear HS6 HREF1 xc xd xa xb HXF HC1 HC2 HS5
      generalize (X.setIfInBounds 3 (.slice A5 n5 c5)).setIfInBounds 4 (.slice none 0 0) = X7 at *
      generalize (w5.setCell ⟨w.heap.size, 3, none⟩ (.slice A5 n5 c5)).setCell ⟨w.heap.size, 4, none⟩ (.slice none 0 0) = w7 at *
      have z1 : IntKind.i64.wrap (2 + 1 : Int) = 3 := IntWalk.i64_in _ (by omega)
      have z2 : (IntKind.i64.wrap (3 : Int)) = 3 := IntWalk.i64_in _ (by omega)
      go_wp2_with fail
      refine wp_region_heldG [] (fun cc W => Blk W w.heap.size 69 X7 ∧ Blk W (w.heap.size + 1) 61 kc) (by kernel_rfl) ?_
      change wpAnyG _ _ _ _ _ _ 11 _ _ (World.drew _)
      have HS8 := Lib.hid HS7.out.drew
      have HREF8 := Lib.hid (HREF7.out.below ((Below.refl _ w7).drew))
      have hS : Blk w7.drew w.heap.size 69 X7 ∧ Blk w7.drew (w.heap.size + 1) 61 kc := ⟨HS8.out.box, HS8.out.kept⟩
      clear HS7 HREF7
      generalize w7.drew = w8 at *
      -- take0 take1 take2 take3 take4 take5 take6 take7 take8 one9 take10 done
      refine g_take (i := 0) rfl rfl (by kernel_rfl) (by kernel_rfl) (by kernel_rfl) (by kernel_rfl) (by kernel_rfl) (fun _ _ _ h => h) hS (fun L W hL hW => by go_simp; rfl) ?_
      refine g_take (i := 1) rfl rfl (by kernel_rfl) (by kernel_rfl) (by kernel_rfl) (by kernel_rfl) (by kernel_rfl) (fun _ _ _ h => h) hS (fun L W hL hW => by go_simp; rfl) ?_
      refine g_take (i := 2) rfl rfl (by kernel_rfl) (by kernel_rfl) (by kernel_rfl) (by kernel_rfl) (by kernel_rfl) (fun _ _ _ h => h) hS (fun L W hL hW => by go_simp; rfl) ?_
      refine g_take (i := 3) rfl rfl (by kernel_rfl) (by kernel_rfl) (by kernel_rfl) (by kernel_rfl) (by kernel_rfl) (fun _ _ _ h => h) hS (fun L W hL hW => by go_simp; rfl) ?_
      refine g_take (i := 4) rfl rfl (by kernel_rfl) (by kernel_rfl) (by kernel_rfl) (by kernel_rfl) (by kernel_rfl) (fun _ _ _ h => h) hS (fun L W hL hW => by obtain ⟨q, q2⟩ := hW; have q3 := q.at_ 8 xd7; have q4 := q2.at_ 3 xk2; go_simp; rfl) ?_
      refine g_take (i := 5) rfl rfl (by kernel_rfl) (by kernel_rfl) (by kernel_rfl) (by kernel_rfl) (by kernel_rfl) (fun _ _ _ h => h) hS (fun L W hL hW => by go_simp; rfl) ?_
      refine g_take (i := 6) rfl rfl (by kernel_rfl) (by kernel_rfl) (by kernel_rfl) (by kernel_rfl) (by kernel_rfl) (fun _ _ _ h => h) hS (fun L W hL hW => by go_simp; rfl) ?_
      refine g_take (i := 7) rfl rfl (by kernel_rfl) (by kernel_rfl) (by kernel_rfl) (by kernel_rfl) (by kernel_rfl) (fun _ _ _ h => h) hS (fun L W hL hW => by go_simp; rfl) ?_
      refine g_take (i := 8) rfl rfl (by kernel_rfl) (by kernel_rfl) (by kernel_rfl) (by kernel_rfl) (by kernel_rfl) (fun _ _ _ h => h) hS (fun L W hL hW => by obtain ⟨q, q2⟩ := hW; have q3 := q.at_ 8 xd7; have q4 := q2.at_ 3 xk2; go_simp; rfl) ?_
      refine g_one (i := 9) rfl rfl (by kernel_rfl) fun K hK => ?_
      go_simp
      refine Calls.mono (HC3.out _) ?_
      rintro e y1 ⟨rfl, rfl⟩
      refine hK _ _ hS ?_
      clear hK K
      refine g_take (i := 10) rfl rfl (by kernel_rfl) (by kernel_rfl) (by kernel_rfl) (by kernel_rfl) (by kernel_rfl) (fun _ _ _ h => h) hS (fun L W hL hW => by go_simp; rfl) ?_
      refine wpAnyG_done (by kernel_rfl) ?_ _
      go_simp
      clear z1 z2 hS
      have hb3 : Bytes w8 w8.heap.size A3 l3 := by have h9 := HS8.out.rv.c1.bytes; rw [HV3.out, HE3.out] at h9; exact h9
      have hb4 : Bytes w8 w8.heap.size A4 l4 := by have h9 := HS8.out.rv.d1.bytes; rw [HV4.out, HE4.out] at h9; exact h9
      obtain ⟨b3, o3, rfl, -, -⟩ := hb3.at_ (j := 0) (by rw [← HL3.out]; omega)
      have HQ4 := Lib.hid (Bytes.head hb4 q2)
      have qc := HS8.out.box.at_ 7 xc7
      unfold maxLen at hc3
      obtain ⟨hc3a, hc3b⟩ := hc3
      have u6 : (q2 : Int) ≤ 32 := by omega
      by_cases hcap : c3 = q2
      · obtain rfl : q2 = 32 := by omega
        obtain rfl : c3 = 32 := by omega
        have HC4 := Lib.hid (join_any (w := w8) (B := w8.heap.size) (Nat.le_refl _) A4 (some ⟨b3, o3, none⟩) c4 0 (l4.take 32) (l3.drop 32) 32 0 HT2.out (by rw [List.length_drop, ← HL3.out]) (by omega) (by omega) HQ4.out (by rw [List.drop_of_length_le (by rw [← HL3.out]; exact Nat.le_refl _)]; exact Row.nil))
        clear hb3 hb4
        go_wp2_with fail
        refine Calls.mono HC4.out ?_
        rintro e w9 ⟨u, rfl, hown, hb9⟩
        generalize (l4.take 32 ++ l3.drop 32).length = n6 at hown
        obtain ⟨A6, c6, hu⟩ := own_form hown
        subst hu
        have HREF9 := Lib.hid (HS8.out.own hb9 hown)
        have HREF1 := Lib.hid (HREF8.out.below hb9)
        have HS9 := Lib.hid (HS8.out.below hb9)
        clear hown hb9 HC4 HS8 HREF8 HQ4 qc
        have qa := HS9.out.box.at_ 7 xc7
        have qb := HS9.out.box.at_ 8 xd7
        have qf := HS9.out.box.frozen (7 )
        have qg := HS9.out.box.frozen 8
        have HX12 := Lib.hid (HXG.out (A6, n6, c6))
        have HS12 := Lib.hid (((HS9.out.re (HNX.out w9 (A5, n5, c5) (A6, n6, c6) _ _ HS9.out.rv HE1.out HE2.out HREF1.out HREF9.out)).cell 7 (.slice A6 n6 c6)).cell 8 (.slice none 0 0))
        clear HS9 HREF1 HREF9 HNX HXG
        simp only at HX12
        go_wp2_with fail
        clear qa qb qf qg
        generalize (X7.setIfInBounds 7 (.slice A6 n6 c6)).setIfInBounds 8 (.slice none 0 0) = X12 at *
        generalize (w9.setCell ⟨w.heap.size, 7, none⟩ (.slice A6 n6 c6)).setCell ⟨w.heap.size, 8, none⟩ (.slice none 0 0) = w12 at *
        go_roundw
        case rel => exact ⟨2, by omega, rfl, _, _, _, HS12, HX12, HO7, HE7⟩
        case measure => simp [intOf]
      · have HC4 := Lib.hid (join_any (w := w8) (B := w8.heap.size) (Nat.le_refl _) A4 (some ⟨b3, o3 + q2, none⟩) c4 (c3 - q2) (l4.take q2) (l3.drop q2) q2 (32 - q2) HT2.out (by rw [List.length_drop, ← HL3.out]) (by omega) (by omega) HQ4.out (Row.drop0 hb3 q2))
        clear hb3 hb4
        go_wp2_with fail
        refine Calls.mono HC4.out ?_
        rintro e w9 ⟨u, rfl, hown, hb9⟩
        generalize (l4.take q2 ++ l3.drop q2).length = n6 at hown
        obtain ⟨A6, c6, hu⟩ := own_form hown
        subst hu
        have HREF9 := Lib.hid (HS8.out.own hb9 hown)
        have HREF1 := Lib.hid (HREF8.out.below hb9)
        have HS9 := Lib.hid (HS8.out.below hb9)
        clear hown hb9 HC4 HS8 HREF8 HQ4 qc
        have qa := HS9.out.box.at_ 7 xc7
        have qb := HS9.out.box.at_ 8 xd7
        have qf := HS9.out.box.frozen (7 )
        have qg := HS9.out.box.frozen 8
        have HX12 := Lib.hid (HXG.out (A6, n6, c6))
        have HS12 := Lib.hid (((HS9.out.re (HNX.out w9 (A5, n5, c5) (A6, n6, c6) _ _ HS9.out.rv HE1.out HE2.out HREF1.out HREF9.out)).cell 7 (.slice A6 n6 c6)).cell 8 (.slice none 0 0))
        clear HS9 HREF1 HREF9 HNX HXG
        simp only at HX12
        go_wp2_with fail
        clear qa qb qf qg
        generalize (X7.setIfInBounds 7 (.slice A6 n6 c6)).setIfInBounds 8 (.slice none 0 0) = X12 at *
        generalize (w9.setCell ⟨w.heap.size, 7, none⟩ (.slice A6 n6 c6)).setCell ⟨w.heap.size, 8, none⟩ (.slice none 0 0) = w12 at *
        go_roundw
        case rel => exact ⟨2, by omega, rfl, _, _, _, HS12, HX12, HO7, HE7⟩
        case measure => simp [intOf]
    · have HX7 : Hid ((X.setIfInBounds 12 (.bool false)).setIfInBounds 9 (.bool false) = rcells (revive t) v cl k) := Lib.hid (by rw [HX.out]; rfl)
      have hrv := HS.out.rv
      have HS7 := Lib.hid (((HS.out.re (t' := revive t) (cl' := cl) (k' := k) ⟨hrv.a0, hrv.b0, hrv.a1, hrv.b1, hrv.c0, hrv.d0, hrv.c1, hrv.d1, fun a b e => by cases e⟩).cell 12 (.bool false)).cell 9 (.bool false))
      have qa := HS.out.box.at_ 12 (v := .bool t.dead) (by rw [HX.out]; rfl)
      have qb := HS.out.box.at_ 9 (v := .bool t.fuse.isSome) (by rw [HX.out]; rfl)
      have qf := HS.out.box.frozen 12
      have qg := HS.out.box.frozen 9
      rw [← HT.out] at HR
      clear hrv
      go_upto_region 8 with fail
      clear qa qb qf qg
      generalize (X.setIfInBounds 12 (.bool false)).setIfInBounds 9 (.bool false) = X7 at *
      generalize (wr.setCell ⟨w.heap.size, 12, none⟩ (.bool false)).setCell ⟨w.heap.size, 9, none⟩ (.bool false) = w7 at *
      have HO := Lib.hid (HS7.out.out1 HX7.out)
      rw [← HR.out] at HO
      go_wp2_with (first | (refine wpList_load_row rfl 69 (.tmp 2) rfl w.heap.size rfl 69 X7 _ _ HS7.out.box.out Try.underlying69 rfl (by rw [rx_size HX7.out]; kernel_rfl) ?_) | (refine wpList_put_row rfl rfl 69 (.tmp 4) _ rfl (w.heap.size + 2) rfl 69 _ X7 rfl HS7.out.res (by rw [rx_size HX7.out]; kernel_rfl) (by rw [rx_size HX7.out]; rfl) (rx_one HX7.out) ?_))
      refine bodyPost_ret (results_cell_row1 rfl _ _ (w.heap.size + 2) 69 X7 (0, 0) _ rfl (HS7.out.res.row X7).out Try.underlying69 rfl (by rw [rx_size HX7.out]; kernel_rfl)) rfl ?_
      exact HO.out
end
end Go.Proofs.Ytpohefpiidlnjaa.Dr
