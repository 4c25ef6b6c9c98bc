/-
  A call of the document's disk, under way; the walk of Append.
-/
import Derived.Test.YtgajgjijnpigoaaDiskRef2
namespace Go.Proofs.Ytgajgjijnpigoaa.Dr
set_option linter.unusedVariables false
open Go Go.RowKit Go.Proofs Go.Proofs.Ytgajgjijnpigoaa Go.Proofs.Ytgajgjijnpigoaa.Wd
open Go.Proofs.Ytgajgjijnpigoaa.Dk (DS upd upd_eq upd_ne Fresh rd hd free own_empty Ok among_yes putD appD after died fused)
theorem rcells_one (s : DS) (v : Nat → Sl) (cl k : Int) : ∀ u ∈ (rcells s v cl k).toList, u.oneCell' = true := by
  intro u hu
  simp only [rcells, List.mem_cons, List.not_mem_nil, or_false] at hu
  rcases hu with rfl | rfl | rfl | rfl | rfl | rfl | rfl | rfl | rfl | rfl | rfl | rfl | rfl <;> rfl
theorem rx_size {X : Array Value} {s : DS} {v : Nat → Sl} {cl k : Int} (h : X = rcells s v cl k) : X.size = 13 := by rw [h]; rfl
theorem rx_one {X : Array Value} {s : DS} {v : Nat → Sl} {cl k : Int} (h : X = rcells s v cl k) : ∀ u ∈ X.toList, u.oneCell' = true := by rw [h]; exact rcells_one s v cl k
theorem RV.kills {w : World} {F : Nat → Prop} {s : DS} {v : Nat → Sl} {cl cl2 k : Int} (h : RV w F s v cl k) (fu : ∀ a b, (killed s).fuse = some (a, b) → cl2 = a ∧ k = b) : RV w F (killed s) v cl2 k := by
  obtain ⟨e1, e2, e3, e4, e5, e6⟩ := killed_all s
  exact ⟨by rw [e1, e2]; exact h.a0, by rw [e1, e2]; exact h.b0, by rw [e1, e2]; exact h.a1, by rw [e1, e2]; exact h.b1, by rw [e3]; exact h.c0, by rw [e4, e5]; exact h.d0, by rw [e3]; exact h.c1, by rw [e4, e5]; exact h.d1, fu⟩
theorem killed_ok {s : DS} (h : Ok s) : Ok (killed s) := by
  have hk := killed_all s
  obtain ⟨e1, e2, e3, e4, e5, e6⟩ := hk
  refine ⟨by rw [e6]; exact h.cap, by rw [e1, e6]; exact h.room, by rw [e1, e2]; exact h.safe, by rw [e3]; exact h.sl, by rw [e4]; exact h.lo, fun a p e => ?_⟩
  unfold killed at e
  rcases hs : s.fuse with _ | ⟨_ | c, q⟩
  · rw [hs] at e
    have e' : s.fuse = some (a, p) := e
    exact h.fuse a p e'
  · rw [hs] at e
    have e' : s.fuse = some (a, p) := e
    exact h.fuse a p e'
  · rw [hs] at e
    have e' : some (c, q) = some (a, p) := e
    cases e'
    have := h.fuse _ _ hs
    omega
theorem kpart_le {s : DS} (h : Ok s) : kpart s ≤ 9223372036854775807 := by
  unfold kpart
  rcases hs : s.fuse with _ | ⟨c, p⟩
  · simp
  · exact (h.fuse c p hs).2
theorem kpart_eq {s : DS} {cl k : Int} (fu : ∀ a b, s.fuse = some (a, b) → cl = a ∧ k = b) (hk : kb s = true) : k = (kpart s : Nat) := by
  unfold kb at hk
  unfold kpart
  rcases hs : s.fuse with _ | ⟨_ | c, p⟩
  · rw [hs] at hk; cases hk
  · exact (fu 0 p hs).2
  · rw [hs] at hk; cases hk
theorem below_row {B : Nat} {w W : World} (h : Below B w W) {g : Nat} (hg : B ≤ g) (cs : Array Value) : Below B w (W.setRow g cs) := ⟨h.os, h.tape, h.output, by simpa using h.size, fun k hk => (setRow_other W g k cs (by omega)).trans (h.block k hk)⟩
/-- A call's two boxes: the argument's, and the answer's. -/
def Two (F : Nat → Prop) (b : Nat) : Nat → Prop := fun j => F j ∨ j = b ∨ j = b + 1
/-- A call of the document's disk, under way: its boxes, and what the struct reads as. -/
structure ST (F : Nat → Prop) (w w1 : World) (X : Array Value) (t : DS) (v : Nat → Sl) (cl k : Int) : Prop where
  box : Blk w1 w.heap.size 53 X
  res : Blk w1 (w.heap.size + 1) 53 #[.int .i64 0, .slice none 0 0, .slice none 0 0, .slice none 0 0, .slice none 0 0, .slice none 0 0, .slice none 0 0, .slice none 0 0, .slice none 0 0, .bool false, .int .i64 0, .int .i64 0, .bool false]
  low : Below w.heap.size w w1
  rv : RV w1 (Two F w.heap.size) t v cl k
  lt : ∀ j, Two F w.heap.size j → j < w1.heap.size
section
variable {w w1 w2 : World} {F : Nat → Prop} {X : Array Value} {t : DS} {v : Nat → Sl} {cl k : Int}
theorem ST.start {s : DS} (h : RV w F s v cl k) (hF : ∀ j, F j → j < w.heap.size) (hX : X.size = 13) : ST F w ((w.alloc (.cells X 53)).alloc (.cells #[.int .i64 0, .slice none 0 0, .slice none 0 0, .slice none 0 0, .slice none 0 0, .slice none 0 0, .slice none 0 0, .slice none 0 0, .slice none 0 0, .bool false, .int .i64 0, .int .i64 0, .bool false] 53)) X s v cl k where
  box := (Blk.new_ w 53 X rfl).alloc _
  res := Blk.new_ (w.alloc (.cells X 53)) 53 #[.int .i64 0, .slice none 0 0, .slice none 0 0, .slice none 0 0, .slice none 0 0, .slice none 0 0, .slice none 0 0, .slice none 0 0, .slice none 0 0, .bool false, .int .i64 0, .int .i64 0, .bool false] (n := w.heap.size + 1) (by simp)
  low := ((Below.refl _ w).alloc (Nat.le_refl _) _).alloc (by simp) _
  rv := ((h.less (G := Two F w.heap.size) (fun j hj => by rcases hj with h | rfl | rfl; exact .inl h; exact .inr (Nat.le_refl _); exact .inr (by omega))).below ((Below.refl _ w).alloc (Nat.le_refl _) _)).below ((Below.refl _ _).alloc (Nat.le_refl _) _)
  lt j hj := by
    simp only [World.size_alloc]
    rcases hj with hj | rfl | rfl
    · have := hF j hj; omega
    · omega
    · omega
theorem ST.below (h : ST F w w1 X t v cl k) (hb : Below w1.heap.size w1 w2) : ST F w w2 X t v cl k :=
  ⟨h.box.below hb h.box.lt, h.res.below hb h.res.lt, h.low.trans (hb.mono h.low.size), h.rv.below hb, fun j hj => Nat.lt_of_lt_of_le (h.lt j hj) hb.size⟩
theorem ST.drew (h : ST F w w1 X t v cl k) : ST F w w1.drew X t v cl k := h.below ((Below.refl _ w1).drew)
theorem ST.put (h : ST F w w1 X t v cl k) (X2 : Array Value) : ST F w (w1.setRow w.heap.size X2) X2 t v cl k := by
  have hf : Fr (fun j => j = w.heap.size) w1 (w1.setRow w.heap.size X2) := ⟨rfl, rfl, rfl, by simp, fun j hj hne => setRow_other w1 _ j _ hne⟩
  exact ⟨h.box.row X2, h.res.rowFar (Nat.succ_ne_self _) X2, below_row h.low (Nat.le_refl _) X2, h.rv.fr hf (fun j hj => .inl (.inr (.inl hj))), fun j hj => by simpa using h.lt j hj⟩
theorem ST.cell (h : ST F w w1 X t v cl k) (i : Nat) (u : Value) : ST F w (w1.setCell ⟨w.heap.size, i, none⟩ u) (X.setIfInBounds i u) t v cl k := by
  have hf : Fr (fun j => j = w.heap.size) w1 (w1.setCell ⟨w.heap.size, i, none⟩ u) := Fr.setCell (F := fun j => j = w.heap.size) (p := ⟨w.heap.size, i, none⟩) (Fr.refl _ _) (.inl rfl) u
  exact ⟨h.box.set_ i u, h.res.far (p := ⟨w.heap.size, i, none⟩) (Nat.succ_ne_self _) u, h.low.setCell (p := ⟨w.heap.size, i, none⟩) (Nat.le_refl _) u, h.rv.fr hf (fun j hj => .inl (.inr (.inl hj))), fun j hj => by simpa using h.lt j hj⟩
theorem ST.re {t' : DS} {v' : Nat → Sl} {cl' k' : Int} (h : ST F w w1 X t v cl k) (hr : RV w1 (Two F w.heap.size) t' v' cl' k') : ST F w w1 X t' v' cl' k' := ⟨h.box, h.res, h.low, hr, h.lt⟩
theorem ST.kills {cl2 : Int} (h : ST F w w1 X t v cl k) (fu : ∀ a b, (killed t).fuse = some (a, b) → cl2 = a ∧ k = b) : ST F w w1 X (killed t) v cl2 k := h.re (h.rv.kills fu)
theorem ST.out (h : ST F w w1 X t v cl k) (hX : X = rcells t v cl k) (c : Nat) : Turned F (c, t) w (.returned (.tuple #[.agg X, .int .i64 (c : Nat)])) (w1.setRow (w.heap.size + 1) X) := by
  have hf : Fr (fun j => j = w.heap.size + 1) w1 (w1.setRow (w.heap.size + 1) X) := ⟨rfl, rfl, rfl, by simp, fun j hj hne => setRow_other w1 _ j _ hne⟩
  exact ⟨⟨v, cl, k, by rw [hX]; rfl, (h.rv.fr hf (fun j hj => .inl (.inr (.inr hj)))).less fun j hj => .inl (.inl hj)⟩, below_row h.low (Nat.le_succ _) _⟩
theorem ST.out1 (h : ST F w w1 X t v cl k) (hX : X = rcells t v cl k) : Turned1 F t w (.returned (.agg X)) (w1.setRow (w.heap.size + 1) X) := by
  have hf : Fr (fun j => j = w.heap.size + 1) w1 (w1.setRow (w.heap.size + 1) X) := ⟨rfl, rfl, rfl, by simp, fun j hj hne => setRow_other w1 _ j _ hne⟩
  exact ⟨⟨v, cl, k, by rw [hX]; rfl, (h.rv.fr hf (fun j hj => .inl (.inr (.inr hj)))).less fun j hj => .inl (.inl hj)⟩, below_row h.low (Nat.le_succ _) _⟩
/-- A slice of the call's own, made behind the boxes. -/
theorem ST.own {n c : Nat} {A : Option Addr} {l : List UInt8} (h : ST F w w1 X t v cl k) (hb : Below w1.heap.size w1 w2) (ho : w2.ownsRow w1.heap.size 5 1 (.slice A n c) n (bs l)) : Ref w2 (Two F w.heap.size) (A, n, c) l := Ref.of_own ho (fun j hj => h.lt j hj)
end
theorem RV.puts0 {w : World} {F : Nat → Prop} {s : DS} {v : Nat → Sl} {cl k : Int} (h : RV w F s v cl k) (hs : s.safe 0 ≤ (s.all 0).length) {b : List UInt8} {q : Nat} {x : Sl} (hx : Ref w F x ((s.all 0).drop (s.safe 0) ++ b.take q)) : RV w F (putD 0 b q s) (upd v 2 x) cl k :=
  ⟨by show Ref w F (v 1) ((s.all 0 ++ b.take q).take (s.safe 0)); rw [List.take_append_of_le_length hs]; exact h.a0, by show Ref w F x ((s.all 0 ++ b.take q).drop (s.safe 0)); rw [List.drop_append_of_le_length hs]; exact hx, h.a1, h.b1, h.c0, h.d0, h.c1, h.d1, h.fu⟩
theorem RV.puts1 {w : World} {F : Nat → Prop} {s : DS} {v : Nat → Sl} {cl k : Int} (h : RV w F s v cl k) (hs : s.safe 1 ≤ (s.all 1).length) {b : List UInt8} {q : Nat} {x : Sl} (hx : Ref w F x ((s.all 1).drop (s.safe 1) ++ b.take q)) : RV w F (putD 1 b q s) (upd v 4 x) cl k :=
  ⟨h.a0, h.b0, by show Ref w F (v 3) ((s.all 1 ++ b.take q).take (s.safe 1)); rw [List.take_append_of_le_length hs]; exact h.a1, by show Ref w F x ((s.all 1 ++ b.take q).drop (s.safe 1)); rw [List.drop_append_of_le_length hs]; exact hx, h.c0, h.d0, h.c1, h.d1, h.fu⟩
section
variable {w : World} {F : Nat → Prop} {s : DS} {v : Nat → Sl} {cl k : Int}
set_option maxRecDepth 100000 in
set_option maxHeartbeats 4000000 in
theorem rappend (ok : Ok s) (h : RV w F s v cl k) (hF : ∀ j, F j → j < w.heap.size) (seg : Int) {A : Option Addr} {n c : Nat} {b : List UInt8} (hn : n = b.length) (hnc : n ≤ c) (hcm : c ≤ maxLen) (hI : Bytes w w.heap.size A b) :
    Calls Try.prog 43 #[rval s v cl k, .int .i64 seg, .slice A n c] w (Turned F (appD s seg b) w) := by
  have HN := Lib.hid hn
  have HQ := Lib.hid h.fu
  have HI := Lib.hid hI
  unfold maxLen at hcm
  clear hn hI
  obtain ⟨X, hX⟩ : ∃ X, X = rcells s v cl k := ⟨_, rfl⟩
  unfold rval
  rw [← hX]
  have HX := Lib.hid hX
  have hS := ST.start h hF (rx_size hX)
  clear hX h hF
  go_enter Try.func43, Try.ntmps43
  go_upto_region 1 with fail
  generalize ((w.alloc (.cells X 53)).alloc (.cells #[.int .i64 0, .slice none 0 0, .slice none 0 0, .slice none 0 0, .slice none 0 0, .slice none 0 0, .slice none 0 0, .slice none 0 0, .slice none 0 0, .bool false, .int .i64 0, .int .i64 0, .bool false] 53)) = w0 at *
  have HS := Lib.hid hS
  clear hS
  cases hd : s.dead
  rotate_left
  · have q12 := HS.out.box.at_ 12 (v := .bool true) (by rw [HX.out, ← hd]; rfl)
    have HR : Hid (appD s seg b = (3, s)) := Lib.hid (by unfold Dk.appD; rw [if_pos hd])
    have HO := Lib.hid (HS.out.out HX.out 3)
    rw [← HR.out] at HO
    go_wp2_with (first | (refine wpList_load_row rfl 53 (.tmp 3) rfl w.heap.size rfl 53 X _ _ HS.out.box.out Try.underlying53 rfl (by rw [rx_size HX.out]; kernel_rfl) ?_) | (refine wpList_put_row rfl rfl 53 (.tmp 6) _ rfl (w.heap.size + 1) rfl 53 _ X rfl HS.out.res (by rw [rx_size HX.out]; kernel_rfl) (by rw [rx_size HX.out]; rfl) (rx_one HX.out) ?_))
    refine bodyPost_ret (results_cell_row2 rfl _ _ (w.heap.size + 1) 53 X (0, 0) _ rfl (HS.out.res.row X).out Try.underlying53 rfl (by rw [rx_size HX.out]; kernel_rfl)) rfl ?_
    exact HO.out
  have q12 := HS.out.box.at_ 12 (v := .bool false) (by rw [HX.out, ← hd]; rfl)
  by_cases h0 : seg < 0
  · have HR : Hid (appD s seg b = (2, s)) := Lib.hid (by unfold Dk.appD; rw [if_neg (by rw [hd]; simp), if_pos (by simp; omega)])
    have HO := Lib.hid (HS.out.out HX.out 2)
    rw [← HR.out] at HO
    go_wp2_with (first | (refine wpList_load_row rfl 53 (.tmp 3) rfl w.heap.size rfl 53 X _ _ HS.out.box.out Try.underlying53 rfl (by rw [rx_size HX.out]; kernel_rfl) ?_) | (refine wpList_put_row rfl rfl 53 (.tmp 6) _ rfl (w.heap.size + 1) rfl 53 _ X rfl HS.out.res (by rw [rx_size HX.out]; kernel_rfl) (by rw [rx_size HX.out]; rfl) (rx_one HX.out) ?_))
    refine bodyPost_ret (results_cell_row2 rfl _ _ (w.heap.size + 1) 53 X (0, 0) _ rfl (HS.out.res.row X).out Try.underlying53 rfl (by rw [rx_size HX.out]; kernel_rfl)) rfl ?_
    exact HO.out
  by_cases h1 : 1 < seg
  · have HR : Hid (appD s seg b = (2, s)) := Lib.hid (by unfold Dk.appD; rw [if_neg (by rw [hd]; simp), if_pos (by simp; omega)])
    have HO := Lib.hid (HS.out.out HX.out 2)
    rw [← HR.out] at HO
    go_wp2_with (first | (refine wpList_load_row rfl 53 (.tmp 3) rfl w.heap.size rfl 53 X _ _ HS.out.box.out Try.underlying53 rfl (by rw [rx_size HX.out]; kernel_rfl) ?_) | (refine wpList_put_row rfl rfl 53 (.tmp 6) _ rfl (w.heap.size + 1) rfl 53 _ X rfl HS.out.res (by rw [rx_size HX.out]; kernel_rfl) (by rw [rx_size HX.out]; rfl) (rx_one HX.out) ?_))
    refine bodyPost_ret (results_cell_row2 rfl _ _ (w.heap.size + 1) 53 X (0, 0) _ rfl (HS.out.res.row X).out Try.underlying53 rfl (by rw [rx_size HX.out]; kernel_rfl)) rfl ?_
    exact HO.out
  have HD := Lib.hid hd
  have HOK := Lib.hid ok
  have hfr : free s ≤ 1048576 := by have := ok.cap; unfold Dk.free; rw [hd, if_neg (by simp)]; omega
  clear hd ok
  rcases (by omega : seg = 0 ∨ seg = 1) with rfl | rfl
  all_goals clear h0 h1
  · have HFREE := Lib.hid (rfree HOK.out HS.out.rv)
    have HR : Hid (appD s 0 b = if free s < b.length then (5, s) else if kb s then (3, putD 0 b (kpart s) (killed s)) else (0, putD 0 b b.length (killed s))) := Lib.hid (by
      unfold Dk.appD
      rw [if_neg (by rw [HD.out]; simp), if_neg (by decide), after_r (s := s) (f := putD (Int.toNat 0) b b.length) (fl := putD (Int.toNat 0) b) (fun _ => rfl) (fun _ => rfl)]
      rfl)
    unfold rval at HFREE
    rw [← HX.out] at HFREE
    go_wp2_with (refine wpList_load_row rfl 53 (.tmp 3) rfl w.heap.size rfl 53 X _ _ HS.out.box.out Try.underlying53 rfl (by rw [rx_size HX.out]; kernel_rfl) ?_)
    refine Calls.mono HFREE.out ?_
    rintro e w1 ⟨rfl, hb1⟩
    have HS1 := Lib.hid (HS.out.below hb1)
    clear HS HFREE hb1 q12
    have HS := HS1
    clear HS1
    by_cases hfull : free s < n
    · rw [if_pos (by rw [← HN.out]; exact hfull)] at HR
      have u1 : ((free s : Nat) : Int) < (n : Int) := by omega
      have HO := Lib.hid (HS.out.out HX.out 5)
      rw [← HR.out] at HO
      go_wp2_with (first | (refine wpList_load_row rfl 53 (.tmp 3) rfl w.heap.size rfl 53 X _ _ HS.out.box.out Try.underlying53 rfl (by rw [rx_size HX.out]; kernel_rfl) ?_) | (refine wpList_put_row rfl rfl 53 (.tmp 6) _ rfl (w.heap.size + 1) rfl 53 _ X rfl HS.out.res (by rw [rx_size HX.out]; kernel_rfl) (by rw [rx_size HX.out]; rfl) (rx_one HX.out) ?_))
      refine bodyPost_ret (results_cell_row2 rfl _ _ (w.heap.size + 1) 53 X (0, 0) _ rfl (HS.out.res.row X).out Try.underlying53 rfl (by rw [rx_size HX.out]; kernel_rfl)) rfl ?_
      exact HO.out
    have u1 : ¬ ((free s : Nat) : Int) < (n : Int) := by omega
    rw [if_neg (by rw [← HN.out]; exact hfull)] at HR
    have hn1 : n ≤ 1048576 := by omega
    clear hfull hfr
    have HK := Lib.hid (rkills (w := w1) (v := v) HOK.out HQ.out)
    unfold rval at HK
    rw [← HX.out] at HK
    go_wp2_with (refine wpList_load_row rfl 53 (.tmp 3) rfl w.heap.size rfl 53 X _ _ HS.out.box.out Try.underlying53 rfl (by rw [rx_size HX.out]; kernel_rfl) ?_)
    clear u1
    refine Calls.mono HK.out ?_
    rintro e w2 ⟨⟨cl2, rfl, hfu2⟩, hb2⟩
    have HS1 := Lib.hid (HS.out.below hb2)
    clear HS HK hb2
    have HS := HS1
    clear HS1
    obtain ⟨X2, hX2⟩ : ∃ X2, X2 = rcells (killed s) v cl2 k := ⟨_, rfl⟩
    unfold rval
    rw [← hX2]
    have HX2 := Lib.hid hX2
    have x11 : X2[11]? = some (.int .i64 k) := by rw [hX2]; rfl
    have xl : X2[2]? = some (.slice (v 2).1 (v 2).2.1 (v 2).2.2) := by rw [hX2]; rfl
    clear hX2
    cases hkb : kb s
    · rw [hkb] at HR
      clear x11 hkb
      rw [if_neg (by simp)] at HR
      have HTK : Hid (b.take n = b.take b.length) := Lib.hid (by rw [← HN.out])
      have u3 : (n : Int) ≤ (c : Int) := by omega
      have hq : n ≤ 1048576 := by omega
      have HT : Hid (n = (b.take n).length) := Lib.hid (by rw [List.length_take]; have := HN.out; omega)
      go_wp2_with (refine wpList_put_row rfl rfl 53 (.tmp 3) _ rfl w.heap.size rfl 53 X X2 rfl HS.out.box (by rw [rx_size HX2.out]; kernel_rfl) (by rw [rx_size HX.out, rx_size HX2.out]) (rx_one HX2.out) ?_)
      have HS4 := Lib.hid ((HS.out.put X2).kills hfu2)
      have HX4 := HX2
      clear HS HX HX2 hfu2
      generalize w2.setRow w.heap.size X2 = w3 at *
      generalize X2 = X at *
      go_upto_region 11 with fail
      have HL1 := Lib.hid HS4.out.rv.b0.len
      have HB1 := Lib.hid HS4.out.rv.b0.bytes
      have hl1 : ((killed s).all 0).length ≤ 1048576 := by rw [(killed_all s).1]; have := HOK.out.room; have := HOK.out.cap; omega
      have hn1 : (v 2).2.1 ≤ 1048576 := by have h1 := HL1.out; rw [List.length_drop] at h1; omega
      have HIW := Lib.hid (Row.more (Bytes.head (l := b) (Row.below HI.out HS4.out.low) n) HS4.out.low.size)
      have HRP := Lib.hid (fun (W : World) (x : Sl) (hr : RV W (Two F w.heap.size) (killed s) v cl2 k) => RV.puts0 (b := b) (q := b.length) (x := x) hr (by rw [(killed_all s).1, (killed_all s).2.1]; exact HOK.out.safe 0 (by omega)))
      rw [← HTK.out] at HRP
      have HY : Hid (X.setIfInBounds 2 = X.setIfInBounds 2) := Lib.hid rfl
      have HXP := Lib.hid (fun (x : Sl) => (show (rcells (killed s) v cl2 k).setIfInBounds 2 (.slice x.1 x.2.1 x.2.2) = rcells (putD 0 b b.length (killed s)) (upd v 2 x) cl2 k from rfl))
      rw [← HX4.out] at HXP
      clear HI hl1 HTK HY HX4
      generalize b.take n = y at *
      generalize ((killed s).all 0).drop ((killed s).safe 0) = l1 at *
      generalize hvs : v 2 = x1 at *
      obtain ⟨A1, n1, c1⟩ := x1
      simp only at hn1 HL1 HB1 xl
      clear hvs
      refine wp_region_heldG [13] (fun cc W => cc 13 = true ∨ Blk W w.heap.size 53 X) (by kernel_rfl) ?_
      change wpAnyG _ _ _ _ _ _ 14 _ _ (World.drew _)
      have HS5 := Lib.hid HS4.out.drew
      clear HS4
      have hS : (false = true) ∨ Blk w3.drew w.heap.size 53 X := .inr HS5.out.box
      -- take0 take1 take2 take3 take4 take5 take6 take7 take8 take10 one9 take11 take12 one13 done
      refine g_take (i := 0) rfl rfl (by kernel_rfl) (by kernel_rfl) (by kernel_rfl) (by kernel_rfl) (by kernel_rfl) (fun _ _ _ h => h) hS (fun L W hL hW => by go_simp; rfl) ?_
      refine g_take (i := 1) rfl rfl (by kernel_rfl) (by kernel_rfl) (by kernel_rfl) (by kernel_rfl) (by kernel_rfl) (fun _ _ _ h => h) hS (fun L W hL hW => by go_simp; rfl) ?_
      refine g_take (i := 2) rfl rfl (by kernel_rfl) (by kernel_rfl) (by kernel_rfl) (by kernel_rfl) (by kernel_rfl) (fun _ _ _ h => h) hS (fun L W hL hW => by go_simp; rfl) ?_
      refine g_take (i := 3) rfl rfl (by kernel_rfl) (by kernel_rfl) (by kernel_rfl) (by kernel_rfl) (by kernel_rfl) (fun _ _ _ h => h) hS (fun L W hL hW => by go_simp; rfl) ?_
      refine g_take (i := 4) rfl rfl (by kernel_rfl) (by kernel_rfl) (by kernel_rfl) (by kernel_rfl) (by kernel_rfl) (fun _ _ _ h => h) hS (fun L W hL hW => by go_simp; rfl) ?_
      refine g_take (i := 5) rfl rfl (by kernel_rfl) (by kernel_rfl) (by kernel_rfl) (by kernel_rfl) (by kernel_rfl) (fun _ _ _ h => h) hS (fun L W hL hW => by have q := (hW.resolve_left (by simp [came, hL 13 (by kernel_rfl)])).at_ 2 xl; go_simp; rfl) ?_
      refine g_take (i := 6) rfl rfl (by kernel_rfl) (by kernel_rfl) (by kernel_rfl) (by kernel_rfl) (by kernel_rfl) (fun _ _ _ h => h) hS (fun L W hL hW => by go_simp; rfl) ?_
      refine g_take (i := 7) rfl rfl (by kernel_rfl) (by kernel_rfl) (by kernel_rfl) (by kernel_rfl) (by kernel_rfl) (fun _ _ _ h => h) hS (fun L W hL hW => by go_simp; rfl) ?_
      refine g_take (i := 8) rfl rfl (by kernel_rfl) (by kernel_rfl) (by kernel_rfl) (by kernel_rfl) (by kernel_rfl) (fun _ _ _ h => h) hS (fun L W hL hW => by go_simp; rfl) ?_
      refine g_take (i := 10) rfl rfl (by kernel_rfl) (by kernel_rfl) (by kernel_rfl) (by kernel_rfl) (by kernel_rfl) (fun _ _ _ h => h) hS (fun L W hL hW => by go_simp; rfl) ?_
      refine g_one (i := 9) rfl rfl (by kernel_rfl) fun K hK => ?_
      go_simp
      refine Calls.mono (join_any (w := w3.drew) (B := w3.heap.size) (Nat.le_refl _) A1 A c1 c l1 y n1 n HL1.out HT.out (by omega) (by omega) HB1.out HIW.out) ?_
      rintro e w5 ⟨u, rfl, hown, hb5⟩
      generalize (l1 ++ y).length = n5 at hown
      obtain ⟨A5, c5, hu⟩ := own_form hown
      subst hu
      have HREF := Lib.hid (HS5.out.own hb5 hown)
      have HS6 := Lib.hid (HS5.out.below hb5)
      clear hown hb5
      have hS : (false = true) ∨ Blk w5 w.heap.size 53 X := .inr HS6.out.box
      refine hK _ _ hS ?_
      clear hK K
      refine g_take (i := 11) rfl rfl (by kernel_rfl) (by kernel_rfl) (by kernel_rfl) (by kernel_rfl) (by kernel_rfl) (fun _ _ _ h => h) hS (fun L W hL hW => by go_simp; rfl) ?_
      refine g_take (i := 12) rfl rfl (by kernel_rfl) (by kernel_rfl) (by kernel_rfl) (by kernel_rfl) (by kernel_rfl) (fun _ _ _ h => h) hS (fun L W hL hW => by go_simp; rfl) ?_
      refine g_one (i := 13) rfl rfl (by kernel_rfl) fun K hK => ?_
      have qa := HS6.out.box.at_ 2 xl
      have qf := HS6.out.box.frozen 2
      go_simp
      refine hK _ _ (.inl rfl) ?_
      clear hK K qa qf
      refine wpAnyG_done (by kernel_rfl) ?_ _
      go_simp
      have HX7 := Lib.hid (HXP.out (A5, n5, c5))
      have HS7 := Lib.hid ((HS6.out.re (HRP.out w5 (A5, n5, c5) HS6.out.rv HREF.out)).cell 2 (.slice A5 n5 c5))
      clear HXP HRP HREF HS6 HS5 HL1 HB1 HIW HT
      simp only at HX7 HS7
      generalize X.setIfInBounds 2 (.slice A5 n5 c5) = X7 at *
      generalize World.setCell _ ⟨w.heap.size, 2, none⟩ _ = w7 at *
      have HO := Lib.hid (HS7.out.out HX7.out 0)
      rw [← HR.out] at HO
      go_wp2_with (first | (refine wpList_load_row rfl 53 (.tmp 3) rfl w.heap.size rfl 53 X7 _ _ HS7.out.box.out Try.underlying53 rfl (by rw [rx_size HX7.out]; kernel_rfl) ?_) | (refine wpList_put_row rfl rfl 53 (.tmp 6) _ rfl (w.heap.size + 1) rfl 53 _ X7 rfl HS7.out.res (by rw [rx_size HX7.out]; kernel_rfl) (by rw [rx_size HX7.out]; rfl) (rx_one HX7.out) ?_))
      refine bodyPost_ret (results_cell_row2 rfl _ _ (w.heap.size + 1) 53 X7 (0, 0) _ rfl (HS7.out.res.row X7).out Try.underlying53 rfl (by rw [rx_size HX7.out]; kernel_rfl)) rfl ?_
      exact HO.out
    · rw [hkb] at HR
      have hkp := kpart_eq HQ.out hkb
      have hpb := kpart_le HOK.out
      generalize kpart s = p at *
      subst hkp
      clear hkb
      by_cases hlt : p < n
      · rw [if_pos rfl] at HR
        have u2 : (p : Int) < (n : Int) := by omega
        have u3 : (p : Int) ≤ (c : Int) := by omega
        have hq : p ≤ 1048576 := by omega
        have HT : Hid (p = (b.take p).length) := Lib.hid (by rw [List.length_take]; have := HN.out; omega)
        clear hlt
        have q11 := (HS.out.put X2).box.at_ 11 x11
        go_wp2_with (refine wpList_put_row rfl rfl 53 (.tmp 3) _ rfl w.heap.size rfl 53 X X2 rfl HS.out.box (by rw [rx_size HX2.out]; kernel_rfl) (by rw [rx_size HX.out, rx_size HX2.out]) (rx_one HX2.out) ?_)
        have HS4 := Lib.hid ((HS.out.put X2).kills hfu2)
        have HX4 := HX2
        clear HS HX HX2 hfu2
        generalize w2.setRow w.heap.size X2 = w3 at *
        generalize X2 = X at *
        go_upto_region 11 with fail
        clear u2 q11
        have HL1 := Lib.hid HS4.out.rv.b0.len
        have HB1 := Lib.hid HS4.out.rv.b0.bytes
        have hl1 : ((killed s).all 0).length ≤ 1048576 := by rw [(killed_all s).1]; have := HOK.out.room; have := HOK.out.cap; omega
        have hn1 : (v 2).2.1 ≤ 1048576 := by have h1 := HL1.out; rw [List.length_drop] at h1; omega
        have HIW := Lib.hid (Row.more (Bytes.head (l := b) (Row.below HI.out HS4.out.low) p) HS4.out.low.size)
        have HRP := Lib.hid (fun (W : World) (x : Sl) (hr : RV W (Two F w.heap.size) (killed s) v cl2 (p : Int)) => RV.puts0 (b := b) (q := p) (x := x) hr (by rw [(killed_all s).1, (killed_all s).2.1]; exact HOK.out.safe 0 (by omega)))
        have HY : Hid (X.setIfInBounds 2 = X.setIfInBounds 2) := Lib.hid rfl
        have HXP := Lib.hid (fun (x : Sl) => (show (rcells (killed s) v cl2 (p : Int)).setIfInBounds 2 (.slice x.1 x.2.1 x.2.2) = rcells (putD 0 b p (killed s)) (upd v 2 x) cl2 (p : Int) from rfl))
        rw [← HX4.out] at HXP
        clear HI hl1  HY HX4
        generalize b.take p = y at *
        generalize ((killed s).all 0).drop ((killed s).safe 0) = l1 at *
        generalize hvs : v 2 = x1 at *
        obtain ⟨A1, n1, c1⟩ := x1
        simp only at hn1 HL1 HB1 xl
        clear hvs
        refine wp_region_heldG [13] (fun cc W => cc 13 = true ∨ Blk W w.heap.size 53 X) (by kernel_rfl) ?_
        change wpAnyG _ _ _ _ _ _ 14 _ _ (World.drew _)
        have HS5 := Lib.hid HS4.out.drew
        clear HS4
        have hS : (false = true) ∨ Blk w3.drew w.heap.size 53 X := .inr HS5.out.box
        -- take0 take1 take2 take3 take4 take5 take6 take7 take8 take10 one9 take11 take12 one13 done
        refine g_take (i := 0) rfl rfl (by kernel_rfl) (by kernel_rfl) (by kernel_rfl) (by kernel_rfl) (by kernel_rfl) (fun _ _ _ h => h) hS (fun L W hL hW => by go_simp; rfl) ?_
        refine g_take (i := 1) rfl rfl (by kernel_rfl) (by kernel_rfl) (by kernel_rfl) (by kernel_rfl) (by kernel_rfl) (fun _ _ _ h => h) hS (fun L W hL hW => by go_simp; rfl) ?_
        refine g_take (i := 2) rfl rfl (by kernel_rfl) (by kernel_rfl) (by kernel_rfl) (by kernel_rfl) (by kernel_rfl) (fun _ _ _ h => h) hS (fun L W hL hW => by go_simp; rfl) ?_
        refine g_take (i := 3) rfl rfl (by kernel_rfl) (by kernel_rfl) (by kernel_rfl) (by kernel_rfl) (by kernel_rfl) (fun _ _ _ h => h) hS (fun L W hL hW => by go_simp; rfl) ?_
        refine g_take (i := 4) rfl rfl (by kernel_rfl) (by kernel_rfl) (by kernel_rfl) (by kernel_rfl) (by kernel_rfl) (fun _ _ _ h => h) hS (fun L W hL hW => by go_simp; rfl) ?_
        refine g_take (i := 5) rfl rfl (by kernel_rfl) (by kernel_rfl) (by kernel_rfl) (by kernel_rfl) (by kernel_rfl) (fun _ _ _ h => h) hS (fun L W hL hW => by have q := (hW.resolve_left (by simp [came, hL 13 (by kernel_rfl)])).at_ 2 xl; go_simp; rfl) ?_
        refine g_take (i := 6) rfl rfl (by kernel_rfl) (by kernel_rfl) (by kernel_rfl) (by kernel_rfl) (by kernel_rfl) (fun _ _ _ h => h) hS (fun L W hL hW => by go_simp; rfl) ?_
        refine g_take (i := 7) rfl rfl (by kernel_rfl) (by kernel_rfl) (by kernel_rfl) (by kernel_rfl) (by kernel_rfl) (fun _ _ _ h => h) hS (fun L W hL hW => by go_simp; rfl) ?_
        refine g_take (i := 8) rfl rfl (by kernel_rfl) (by kernel_rfl) (by kernel_rfl) (by kernel_rfl) (by kernel_rfl) (fun _ _ _ h => h) hS (fun L W hL hW => by go_simp; rfl) ?_
        refine g_take (i := 10) rfl rfl (by kernel_rfl) (by kernel_rfl) (by kernel_rfl) (by kernel_rfl) (by kernel_rfl) (fun _ _ _ h => h) hS (fun L W hL hW => by go_simp; rfl) ?_
        refine g_one (i := 9) rfl rfl (by kernel_rfl) fun K hK => ?_
        go_simp
        refine Calls.mono (join_any (w := w3.drew) (B := w3.heap.size) (Nat.le_refl _) A1 A c1 c l1 y n1 p HL1.out HT.out (by omega) (by omega) HB1.out HIW.out) ?_
        rintro e w5 ⟨u, rfl, hown, hb5⟩
        generalize (l1 ++ y).length = n5 at hown
        obtain ⟨A5, c5, hu⟩ := own_form hown
        subst hu
        have HREF := Lib.hid (HS5.out.own hb5 hown)
        have HS6 := Lib.hid (HS5.out.below hb5)
        clear hown hb5
        have hS : (false = true) ∨ Blk w5 w.heap.size 53 X := .inr HS6.out.box
        refine hK _ _ hS ?_
        clear hK K
        refine g_take (i := 11) rfl rfl (by kernel_rfl) (by kernel_rfl) (by kernel_rfl) (by kernel_rfl) (by kernel_rfl) (fun _ _ _ h => h) hS (fun L W hL hW => by go_simp; rfl) ?_
        refine g_take (i := 12) rfl rfl (by kernel_rfl) (by kernel_rfl) (by kernel_rfl) (by kernel_rfl) (by kernel_rfl) (fun _ _ _ h => h) hS (fun L W hL hW => by go_simp; rfl) ?_
        refine g_one (i := 13) rfl rfl (by kernel_rfl) fun K hK => ?_
        have qa := HS6.out.box.at_ 2 xl
        have qf := HS6.out.box.frozen 2
        go_simp
        refine hK _ _ (.inl rfl) ?_
        clear hK K qa qf
        refine wpAnyG_done (by kernel_rfl) ?_ _
        go_simp
        have HX7 := Lib.hid (HXP.out (A5, n5, c5))
        have HS7 := Lib.hid ((HS6.out.re (HRP.out w5 (A5, n5, c5) HS6.out.rv HREF.out)).cell 2 (.slice A5 n5 c5))
        clear HXP HRP HREF HS6 HS5 HL1 HB1 HIW HT
        simp only at HX7 HS7
        generalize X.setIfInBounds 2 (.slice A5 n5 c5) = X7 at *
        generalize World.setCell _ ⟨w.heap.size, 2, none⟩ _ = w7 at *
        have HO := Lib.hid (HS7.out.out HX7.out 3)
        rw [← HR.out] at HO
        go_wp2_with (first | (refine wpList_load_row rfl 53 (.tmp 3) rfl w.heap.size rfl 53 X7 _ _ HS7.out.box.out Try.underlying53 rfl (by rw [rx_size HX7.out]; kernel_rfl) ?_) | (refine wpList_put_row rfl rfl 53 (.tmp 6) _ rfl (w.heap.size + 1) rfl 53 _ X7 rfl HS7.out.res (by rw [rx_size HX7.out]; kernel_rfl) (by rw [rx_size HX7.out]; rfl) (rx_one HX7.out) ?_))
        refine bodyPost_ret (results_cell_row2 rfl _ _ (w.heap.size + 1) 53 X7 (0, 0) _ rfl (HS7.out.res.row X7).out Try.underlying53 rfl (by rw [rx_size HX7.out]; kernel_rfl)) rfl ?_
        exact HO.out
      · rw [if_pos rfl] at HR
        have u2 : ¬ (p : Int) < (n : Int) := by omega
        have HTK : Hid (b.take n = b.take p) := Lib.hid (by rw [List.take_of_length_le (by have := HN.out; omega), List.take_of_length_le (by have := HN.out; omega)])
        have u3 : (n : Int) ≤ (c : Int) := by omega
        have hq : n ≤ 1048576 := by omega
        have HT : Hid (n = (b.take n).length) := Lib.hid (by rw [List.length_take]; have := HN.out; omega)
        clear hlt
        have q11 := (HS.out.put X2).box.at_ 11 x11
        go_wp2_with (refine wpList_put_row rfl rfl 53 (.tmp 3) _ rfl w.heap.size rfl 53 X X2 rfl HS.out.box (by rw [rx_size HX2.out]; kernel_rfl) (by rw [rx_size HX.out, rx_size HX2.out]) (rx_one HX2.out) ?_)
        have HS4 := Lib.hid ((HS.out.put X2).kills hfu2)
        have HX4 := HX2
        clear HS HX HX2 hfu2
        generalize w2.setRow w.heap.size X2 = w3 at *
        generalize X2 = X at *
        go_upto_region 11 with fail
        clear u2 q11
        have HL1 := Lib.hid HS4.out.rv.b0.len
        have HB1 := Lib.hid HS4.out.rv.b0.bytes
        have hl1 : ((killed s).all 0).length ≤ 1048576 := by rw [(killed_all s).1]; have := HOK.out.room; have := HOK.out.cap; omega
        have hn1 : (v 2).2.1 ≤ 1048576 := by have h1 := HL1.out; rw [List.length_drop] at h1; omega
        have HIW := Lib.hid (Row.more (Bytes.head (l := b) (Row.below HI.out HS4.out.low) n) HS4.out.low.size)
        have HRP := Lib.hid (fun (W : World) (x : Sl) (hr : RV W (Two F w.heap.size) (killed s) v cl2 (p : Int)) => RV.puts0 (b := b) (q := p) (x := x) hr (by rw [(killed_all s).1, (killed_all s).2.1]; exact HOK.out.safe 0 (by omega)))
        rw [← HTK.out] at HRP
        have HY : Hid (X.setIfInBounds 2 = X.setIfInBounds 2) := Lib.hid rfl
        have HXP := Lib.hid (fun (x : Sl) => (show (rcells (killed s) v cl2 (p : Int)).setIfInBounds 2 (.slice x.1 x.2.1 x.2.2) = rcells (putD 0 b p (killed s)) (upd v 2 x) cl2 (p : Int) from rfl))
        rw [← HX4.out] at HXP
        clear HI hl1 HTK HY HX4
        generalize b.take n = y at *
        generalize ((killed s).all 0).drop ((killed s).safe 0) = l1 at *
        generalize hvs : v 2 = x1 at *
        obtain ⟨A1, n1, c1⟩ := x1
        simp only at hn1 HL1 HB1 xl
        clear hvs
        refine wp_region_heldG [13] (fun cc W => cc 13 = true ∨ Blk W w.heap.size 53 X) (by kernel_rfl) ?_
        change wpAnyG _ _ _ _ _ _ 14 _ _ (World.drew _)
        have HS5 := Lib.hid HS4.out.drew
        clear HS4
        have hS : (false = true) ∨ Blk w3.drew w.heap.size 53 X := .inr HS5.out.box
        -- take0 take1 take2 take3 take4 take5 take6 take7 take8 take10 one9 take11 take12 one13 done
        refine g_take (i := 0) rfl rfl (by kernel_rfl) (by kernel_rfl) (by kernel_rfl) (by kernel_rfl) (by kernel_rfl) (fun _ _ _ h => h) hS (fun L W hL hW => by go_simp; rfl) ?_
        refine g_take (i := 1) rfl rfl (by kernel_rfl) (by kernel_rfl) (by kernel_rfl) (by kernel_rfl) (by kernel_rfl) (fun _ _ _ h => h) hS (fun L W hL hW => by go_simp; rfl) ?_
        refine g_take (i := 2) rfl rfl (by kernel_rfl) (by kernel_rfl) (by kernel_rfl) (by kernel_rfl) (by kernel_rfl) (fun _ _ _ h => h) hS (fun L W hL hW => by go_simp; rfl) ?_
        refine g_take (i := 3) rfl rfl (by kernel_rfl) (by kernel_rfl) (by kernel_rfl) (by kernel_rfl) (by kernel_rfl) (fun _ _ _ h => h) hS (fun L W hL hW => by go_simp; rfl) ?_
        refine g_take (i := 4) rfl rfl (by kernel_rfl) (by kernel_rfl) (by kernel_rfl) (by kernel_rfl) (by kernel_rfl) (fun _ _ _ h => h) hS (fun L W hL hW => by go_simp; rfl) ?_
        refine g_take (i := 5) rfl rfl (by kernel_rfl) (by kernel_rfl) (by kernel_rfl) (by kernel_rfl) (by kernel_rfl) (fun _ _ _ h => h) hS (fun L W hL hW => by have q := (hW.resolve_left (by simp [came, hL 13 (by kernel_rfl)])).at_ 2 xl; go_simp; rfl) ?_
        refine g_take (i := 6) rfl rfl (by kernel_rfl) (by kernel_rfl) (by kernel_rfl) (by kernel_rfl) (by kernel_rfl) (fun _ _ _ h => h) hS (fun L W hL hW => by go_simp; rfl) ?_
        refine g_take (i := 7) rfl rfl (by kernel_rfl) (by kernel_rfl) (by kernel_rfl) (by kernel_rfl) (by kernel_rfl) (fun _ _ _ h => h) hS (fun L W hL hW => by go_simp; rfl) ?_
        refine g_take (i := 8) rfl rfl (by kernel_rfl) (by kernel_rfl) (by kernel_rfl) (by kernel_rfl) (by kernel_rfl) (fun _ _ _ h => h) hS (fun L W hL hW => by go_simp; rfl) ?_
        refine g_take (i := 10) rfl rfl (by kernel_rfl) (by kernel_rfl) (by kernel_rfl) (by kernel_rfl) (by kernel_rfl) (fun _ _ _ h => h) hS (fun L W hL hW => by go_simp; rfl) ?_
        refine g_one (i := 9) rfl rfl (by kernel_rfl) fun K hK => ?_
        go_simp
        refine Calls.mono (join_any (w := w3.drew) (B := w3.heap.size) (Nat.le_refl _) A1 A c1 c l1 y n1 n HL1.out HT.out (by omega) (by omega) HB1.out HIW.out) ?_
        rintro e w5 ⟨u, rfl, hown, hb5⟩
        generalize (l1 ++ y).length = n5 at hown
        obtain ⟨A5, c5, hu⟩ := own_form hown
        subst hu
        have HREF := Lib.hid (HS5.out.own hb5 hown)
        have HS6 := Lib.hid (HS5.out.below hb5)
        clear hown hb5
        have hS : (false = true) ∨ Blk w5 w.heap.size 53 X := .inr HS6.out.box
        refine hK _ _ hS ?_
        clear hK K
        refine g_take (i := 11) rfl rfl (by kernel_rfl) (by kernel_rfl) (by kernel_rfl) (by kernel_rfl) (by kernel_rfl) (fun _ _ _ h => h) hS (fun L W hL hW => by go_simp; rfl) ?_
        refine g_take (i := 12) rfl rfl (by kernel_rfl) (by kernel_rfl) (by kernel_rfl) (by kernel_rfl) (by kernel_rfl) (fun _ _ _ h => h) hS (fun L W hL hW => by go_simp; rfl) ?_
        refine g_one (i := 13) rfl rfl (by kernel_rfl) fun K hK => ?_
        have qa := HS6.out.box.at_ 2 xl
        have qf := HS6.out.box.frozen 2
        go_simp
        refine hK _ _ (.inl rfl) ?_
        clear hK K qa qf
        refine wpAnyG_done (by kernel_rfl) ?_ _
        go_simp
        have HX7 := Lib.hid (HXP.out (A5, n5, c5))
        have HS7 := Lib.hid ((HS6.out.re (HRP.out w5 (A5, n5, c5) HS6.out.rv HREF.out)).cell 2 (.slice A5 n5 c5))
        clear HXP HRP HREF HS6 HS5 HL1 HB1 HIW HT
        simp only at HX7 HS7
        generalize X.setIfInBounds 2 (.slice A5 n5 c5) = X7 at *
        generalize World.setCell _ ⟨w.heap.size, 2, none⟩ _ = w7 at *
        have HO := Lib.hid (HS7.out.out HX7.out 3)
        rw [← HR.out] at HO
        go_wp2_with (first | (refine wpList_load_row rfl 53 (.tmp 3) rfl w.heap.size rfl 53 X7 _ _ HS7.out.box.out Try.underlying53 rfl (by rw [rx_size HX7.out]; kernel_rfl) ?_) | (refine wpList_put_row rfl rfl 53 (.tmp 6) _ rfl (w.heap.size + 1) rfl 53 _ X7 rfl HS7.out.res (by rw [rx_size HX7.out]; kernel_rfl) (by rw [rx_size HX7.out]; rfl) (rx_one HX7.out) ?_))
        refine bodyPost_ret (results_cell_row2 rfl _ _ (w.heap.size + 1) 53 X7 (0, 0) _ rfl (HS7.out.res.row X7).out Try.underlying53 rfl (by rw [rx_size HX7.out]; kernel_rfl)) rfl ?_
        exact HO.out
  · have HFREE := Lib.hid (rfree HOK.out HS.out.rv)
    have HR : Hid (appD s 1 b = if free s < b.length then (5, s) else if kb s then (3, putD 1 b (kpart s) (killed s)) else (0, putD 1 b b.length (killed s))) := Lib.hid (by
      unfold Dk.appD
      rw [if_neg (by rw [HD.out]; simp), if_neg (by decide), after_r (s := s) (f := putD (Int.toNat 1) b b.length) (fl := putD (Int.toNat 1) b) (fun _ => rfl) (fun _ => rfl)]
      rfl)
    unfold rval at HFREE
    rw [← HX.out] at HFREE
    go_wp2_with (refine wpList_load_row rfl 53 (.tmp 3) rfl w.heap.size rfl 53 X _ _ HS.out.box.out Try.underlying53 rfl (by rw [rx_size HX.out]; kernel_rfl) ?_)
    refine Calls.mono HFREE.out ?_
    rintro e w1 ⟨rfl, hb1⟩
    have HS1 := Lib.hid (HS.out.below hb1)
    clear HS HFREE hb1 q12
    have HS := HS1
    clear HS1
    by_cases hfull : free s < n
    · rw [if_pos (by rw [← HN.out]; exact hfull)] at HR
      have u1 : ((free s : Nat) : Int) < (n : Int) := by omega
      have HO := Lib.hid (HS.out.out HX.out 5)
      rw [← HR.out] at HO
      go_wp2_with (first | (refine wpList_load_row rfl 53 (.tmp 3) rfl w.heap.size rfl 53 X _ _ HS.out.box.out Try.underlying53 rfl (by rw [rx_size HX.out]; kernel_rfl) ?_) | (refine wpList_put_row rfl rfl 53 (.tmp 6) _ rfl (w.heap.size + 1) rfl 53 _ X rfl HS.out.res (by rw [rx_size HX.out]; kernel_rfl) (by rw [rx_size HX.out]; rfl) (rx_one HX.out) ?_))
      refine bodyPost_ret (results_cell_row2 rfl _ _ (w.heap.size + 1) 53 X (0, 0) _ rfl (HS.out.res.row X).out Try.underlying53 rfl (by rw [rx_size HX.out]; kernel_rfl)) rfl ?_
      exact HO.out
    have u1 : ¬ ((free s : Nat) : Int) < (n : Int) := by omega
    rw [if_neg (by rw [← HN.out]; exact hfull)] at HR
    have hn1 : n ≤ 1048576 := by omega
    clear hfull hfr
    have HK := Lib.hid (rkills (w := w1) (v := v) HOK.out HQ.out)
    unfold rval at HK
    rw [← HX.out] at HK
    go_wp2_with (refine wpList_load_row rfl 53 (.tmp 3) rfl w.heap.size rfl 53 X _ _ HS.out.box.out Try.underlying53 rfl (by rw [rx_size HX.out]; kernel_rfl) ?_)
    clear u1
    refine Calls.mono HK.out ?_
    rintro e w2 ⟨⟨cl2, rfl, hfu2⟩, hb2⟩
    have HS1 := Lib.hid (HS.out.below hb2)
    clear HS HK hb2
    have HS := HS1
    clear HS1
    obtain ⟨X2, hX2⟩ : ∃ X2, X2 = rcells (killed s) v cl2 k := ⟨_, rfl⟩
    unfold rval
    rw [← hX2]
    have HX2 := Lib.hid hX2
    have x11 : X2[11]? = some (.int .i64 k) := by rw [hX2]; rfl
    have xl : X2[4]? = some (.slice (v 4).1 (v 4).2.1 (v 4).2.2) := by rw [hX2]; rfl
    clear hX2
    cases hkb : kb s
    · rw [hkb] at HR
      clear x11 hkb
      rw [if_neg (by simp)] at HR
      have HTK : Hid (b.take n = b.take b.length) := Lib.hid (by rw [← HN.out])
      have u3 : (n : Int) ≤ (c : Int) := by omega
      have hq : n ≤ 1048576 := by omega
      have HT : Hid (n = (b.take n).length) := Lib.hid (by rw [List.length_take]; have := HN.out; omega)
      go_wp2_with (refine wpList_put_row rfl rfl 53 (.tmp 3) _ rfl w.heap.size rfl 53 X X2 rfl HS.out.box (by rw [rx_size HX2.out]; kernel_rfl) (by rw [rx_size HX.out, rx_size HX2.out]) (rx_one HX2.out) ?_)
      have HS4 := Lib.hid ((HS.out.put X2).kills hfu2)
      have HX4 := HX2
      clear HS HX HX2 hfu2
      generalize w2.setRow w.heap.size X2 = w3 at *
      generalize X2 = X at *
      go_upto_region 11 with fail
      have HL1 := Lib.hid HS4.out.rv.b1.len
      have HB1 := Lib.hid HS4.out.rv.b1.bytes
      have hl1 : ((killed s).all 1).length ≤ 1048576 := by rw [(killed_all s).1]; have := HOK.out.room; have := HOK.out.cap; omega
      have hn1 : (v 4).2.1 ≤ 1048576 := by have h1 := HL1.out; rw [List.length_drop] at h1; omega
      have HIW := Lib.hid (Row.more (Bytes.head (l := b) (Row.below HI.out HS4.out.low) n) HS4.out.low.size)
      have HRP := Lib.hid (fun (W : World) (x : Sl) (hr : RV W (Two F w.heap.size) (killed s) v cl2 k) => RV.puts1 (b := b) (q := b.length) (x := x) hr (by rw [(killed_all s).1, (killed_all s).2.1]; exact HOK.out.safe 1 (by omega)))
      rw [← HTK.out] at HRP
      have HY : Hid (X.setIfInBounds 4 = X.setIfInBounds 4) := Lib.hid rfl
      have HXP := Lib.hid (fun (x : Sl) => (show (rcells (killed s) v cl2 k).setIfInBounds 4 (.slice x.1 x.2.1 x.2.2) = rcells (putD 1 b b.length (killed s)) (upd v 4 x) cl2 k from rfl))
      rw [← HX4.out] at HXP
      clear HI hl1 HTK HY HX4
      generalize b.take n = y at *
      generalize ((killed s).all 1).drop ((killed s).safe 1) = l1 at *
      generalize hvs : v 4 = x1 at *
      obtain ⟨A1, n1, c1⟩ := x1
      simp only at hn1 HL1 HB1 xl
      clear hvs
      refine wp_region_heldG [13] (fun cc W => cc 13 = true ∨ Blk W w.heap.size 53 X) (by kernel_rfl) ?_
      change wpAnyG _ _ _ _ _ _ 14 _ _ (World.drew _)
      have HS5 := Lib.hid HS4.out.drew
      clear HS4
      have hS : (false = true) ∨ Blk w3.drew w.heap.size 53 X := .inr HS5.out.box
      -- take0 take1 take2 take3 take4 take5 take6 take7 take8 take10 one9 take11 take12 one13 done
      refine g_take (i := 0) rfl rfl (by kernel_rfl) (by kernel_rfl) (by kernel_rfl) (by kernel_rfl) (by kernel_rfl) (fun _ _ _ h => h) hS (fun L W hL hW => by go_simp; rfl) ?_
      refine g_take (i := 1) rfl rfl (by kernel_rfl) (by kernel_rfl) (by kernel_rfl) (by kernel_rfl) (by kernel_rfl) (fun _ _ _ h => h) hS (fun L W hL hW => by go_simp; rfl) ?_
      refine g_take (i := 2) rfl rfl (by kernel_rfl) (by kernel_rfl) (by kernel_rfl) (by kernel_rfl) (by kernel_rfl) (fun _ _ _ h => h) hS (fun L W hL hW => by go_simp; rfl) ?_
      refine g_take (i := 3) rfl rfl (by kernel_rfl) (by kernel_rfl) (by kernel_rfl) (by kernel_rfl) (by kernel_rfl) (fun _ _ _ h => h) hS (fun L W hL hW => by go_simp; rfl) ?_
      refine g_take (i := 4) rfl rfl (by kernel_rfl) (by kernel_rfl) (by kernel_rfl) (by kernel_rfl) (by kernel_rfl) (fun _ _ _ h => h) hS (fun L W hL hW => by go_simp; rfl) ?_
      refine g_take (i := 5) rfl rfl (by kernel_rfl) (by kernel_rfl) (by kernel_rfl) (by kernel_rfl) (by kernel_rfl) (fun _ _ _ h => h) hS (fun L W hL hW => by have q := (hW.resolve_left (by simp [came, hL 13 (by kernel_rfl)])).at_ 4 xl; go_simp; rfl) ?_
      refine g_take (i := 6) rfl rfl (by kernel_rfl) (by kernel_rfl) (by kernel_rfl) (by kernel_rfl) (by kernel_rfl) (fun _ _ _ h => h) hS (fun L W hL hW => by go_simp; rfl) ?_
      refine g_take (i := 7) rfl rfl (by kernel_rfl) (by kernel_rfl) (by kernel_rfl) (by kernel_rfl) (by kernel_rfl) (fun _ _ _ h => h) hS (fun L W hL hW => by go_simp; rfl) ?_
      refine g_take (i := 8) rfl rfl (by kernel_rfl) (by kernel_rfl) (by kernel_rfl) (by kernel_rfl) (by kernel_rfl) (fun _ _ _ h => h) hS (fun L W hL hW => by go_simp; rfl) ?_
      refine g_take (i := 10) rfl rfl (by kernel_rfl) (by kernel_rfl) (by kernel_rfl) (by kernel_rfl) (by kernel_rfl) (fun _ _ _ h => h) hS (fun L W hL hW => by go_simp; rfl) ?_
      refine g_one (i := 9) rfl rfl (by kernel_rfl) fun K hK => ?_
      go_simp
      refine Calls.mono (join_any (w := w3.drew) (B := w3.heap.size) (Nat.le_refl _) A1 A c1 c l1 y n1 n HL1.out HT.out (by omega) (by omega) HB1.out HIW.out) ?_
      rintro e w5 ⟨u, rfl, hown, hb5⟩
      generalize (l1 ++ y).length = n5 at hown
      obtain ⟨A5, c5, hu⟩ := own_form hown
      subst hu
      have HREF := Lib.hid (HS5.out.own hb5 hown)
      have HS6 := Lib.hid (HS5.out.below hb5)
      clear hown hb5
      have hS : (false = true) ∨ Blk w5 w.heap.size 53 X := .inr HS6.out.box
      refine hK _ _ hS ?_
      clear hK K
      refine g_take (i := 11) rfl rfl (by kernel_rfl) (by kernel_rfl) (by kernel_rfl) (by kernel_rfl) (by kernel_rfl) (fun _ _ _ h => h) hS (fun L W hL hW => by go_simp; rfl) ?_
      refine g_take (i := 12) rfl rfl (by kernel_rfl) (by kernel_rfl) (by kernel_rfl) (by kernel_rfl) (by kernel_rfl) (fun _ _ _ h => h) hS (fun L W hL hW => by go_simp; rfl) ?_
      refine g_one (i := 13) rfl rfl (by kernel_rfl) fun K hK => ?_
      have qa := HS6.out.box.at_ 4 xl
      have qf := HS6.out.box.frozen 4
      go_simp
      refine hK _ _ (.inl rfl) ?_
      clear hK K qa qf
      refine wpAnyG_done (by kernel_rfl) ?_ _
      go_simp
      have HX7 := Lib.hid (HXP.out (A5, n5, c5))
      have HS7 := Lib.hid ((HS6.out.re (HRP.out w5 (A5, n5, c5) HS6.out.rv HREF.out)).cell 4 (.slice A5 n5 c5))
      clear HXP HRP HREF HS6 HS5 HL1 HB1 HIW HT
      simp only at HX7 HS7
      generalize X.setIfInBounds 4 (.slice A5 n5 c5) = X7 at *
      generalize World.setCell _ ⟨w.heap.size, 4, none⟩ _ = w7 at *
      have HO := Lib.hid (HS7.out.out HX7.out 0)
      rw [← HR.out] at HO
      go_wp2_with (first | (refine wpList_load_row rfl 53 (.tmp 3) rfl w.heap.size rfl 53 X7 _ _ HS7.out.box.out Try.underlying53 rfl (by rw [rx_size HX7.out]; kernel_rfl) ?_) | (refine wpList_put_row rfl rfl 53 (.tmp 6) _ rfl (w.heap.size + 1) rfl 53 _ X7 rfl HS7.out.res (by rw [rx_size HX7.out]; kernel_rfl) (by rw [rx_size HX7.out]; rfl) (rx_one HX7.out) ?_))
      refine bodyPost_ret (results_cell_row2 rfl _ _ (w.heap.size + 1) 53 X7 (0, 0) _ rfl (HS7.out.res.row X7).out Try.underlying53 rfl (by rw [rx_size HX7.out]; kernel_rfl)) rfl ?_
      exact HO.out
    · rw [hkb] at HR
      have hkp := kpart_eq HQ.out hkb
      have hpb := kpart_le HOK.out
      generalize kpart s = p at *
      subst hkp
      clear hkb
      by_cases hlt : p < n
      · rw [if_pos rfl] at HR
        have u2 : (p : Int) < (n : Int) := by omega
        have u3 : (p : Int) ≤ (c : Int) := by omega
        have hq : p ≤ 1048576 := by omega
        have HT : Hid (p = (b.take p).length) := Lib.hid (by rw [List.length_take]; have := HN.out; omega)
        clear hlt
        have q11 := (HS.out.put X2).box.at_ 11 x11
        go_wp2_with (refine wpList_put_row rfl rfl 53 (.tmp 3) _ rfl w.heap.size rfl 53 X X2 rfl HS.out.box (by rw [rx_size HX2.out]; kernel_rfl) (by rw [rx_size HX.out, rx_size HX2.out]) (rx_one HX2.out) ?_)
        have HS4 := Lib.hid ((HS.out.put X2).kills hfu2)
        have HX4 := HX2
        clear HS HX HX2 hfu2
        generalize w2.setRow w.heap.size X2 = w3 at *
        generalize X2 = X at *
        go_upto_region 11 with fail
        clear u2 q11
        have HL1 := Lib.hid HS4.out.rv.b1.len
        have HB1 := Lib.hid HS4.out.rv.b1.bytes
        have hl1 : ((killed s).all 1).length ≤ 1048576 := by rw [(killed_all s).1]; have := HOK.out.room; have := HOK.out.cap; omega
        have hn1 : (v 4).2.1 ≤ 1048576 := by have h1 := HL1.out; rw [List.length_drop] at h1; omega
        have HIW := Lib.hid (Row.more (Bytes.head (l := b) (Row.below HI.out HS4.out.low) p) HS4.out.low.size)
        have HRP := Lib.hid (fun (W : World) (x : Sl) (hr : RV W (Two F w.heap.size) (killed s) v cl2 (p : Int)) => RV.puts1 (b := b) (q := p) (x := x) hr (by rw [(killed_all s).1, (killed_all s).2.1]; exact HOK.out.safe 1 (by omega)))
        have HY : Hid (X.setIfInBounds 4 = X.setIfInBounds 4) := Lib.hid rfl
        have HXP := Lib.hid (fun (x : Sl) => (show (rcells (killed s) v cl2 (p : Int)).setIfInBounds 4 (.slice x.1 x.2.1 x.2.2) = rcells (putD 1 b p (killed s)) (upd v 4 x) cl2 (p : Int) from rfl))
        rw [← HX4.out] at HXP
        clear HI hl1  HY HX4
        generalize b.take p = y at *
        generalize ((killed s).all 1).drop ((killed s).safe 1) = l1 at *
        generalize hvs : v 4 = x1 at *
        obtain ⟨A1, n1, c1⟩ := x1
        simp only at hn1 HL1 HB1 xl
        clear hvs
        refine wp_region_heldG [13] (fun cc W => cc 13 = true ∨ Blk W w.heap.size 53 X) (by kernel_rfl) ?_
        change wpAnyG _ _ _ _ _ _ 14 _ _ (World.drew _)
        have HS5 := Lib.hid HS4.out.drew
        clear HS4
        have hS : (false = true) ∨ Blk w3.drew w.heap.size 53 X := .inr HS5.out.box
        -- take0 take1 take2 take3 take4 take5 take6 take7 take8 take10 one9 take11 take12 one13 done
        refine g_take (i := 0) rfl rfl (by kernel_rfl) (by kernel_rfl) (by kernel_rfl) (by kernel_rfl) (by kernel_rfl) (fun _ _ _ h => h) hS (fun L W hL hW => by go_simp; rfl) ?_
        refine g_take (i := 1) rfl rfl (by kernel_rfl) (by kernel_rfl) (by kernel_rfl) (by kernel_rfl) (by kernel_rfl) (fun _ _ _ h => h) hS (fun L W hL hW => by go_simp; rfl) ?_
        refine g_take (i := 2) rfl rfl (by kernel_rfl) (by kernel_rfl) (by kernel_rfl) (by kernel_rfl) (by kernel_rfl) (fun _ _ _ h => h) hS (fun L W hL hW => by go_simp; rfl) ?_
        refine g_take (i := 3) rfl rfl (by kernel_rfl) (by kernel_rfl) (by kernel_rfl) (by kernel_rfl) (by kernel_rfl) (fun _ _ _ h => h) hS (fun L W hL hW => by go_simp; rfl) ?_
        refine g_take (i := 4) rfl rfl (by kernel_rfl) (by kernel_rfl) (by kernel_rfl) (by kernel_rfl) (by kernel_rfl) (fun _ _ _ h => h) hS (fun L W hL hW => by go_simp; rfl) ?_
        refine g_take (i := 5) rfl rfl (by kernel_rfl) (by kernel_rfl) (by kernel_rfl) (by kernel_rfl) (by kernel_rfl) (fun _ _ _ h => h) hS (fun L W hL hW => by have q := (hW.resolve_left (by simp [came, hL 13 (by kernel_rfl)])).at_ 4 xl; go_simp; rfl) ?_
        refine g_take (i := 6) rfl rfl (by kernel_rfl) (by kernel_rfl) (by kernel_rfl) (by kernel_rfl) (by kernel_rfl) (fun _ _ _ h => h) hS (fun L W hL hW => by go_simp; rfl) ?_
        refine g_take (i := 7) rfl rfl (by kernel_rfl) (by kernel_rfl) (by kernel_rfl) (by kernel_rfl) (by kernel_rfl) (fun _ _ _ h => h) hS (fun L W hL hW => by go_simp; rfl) ?_
        refine g_take (i := 8) rfl rfl (by kernel_rfl) (by kernel_rfl) (by kernel_rfl) (by kernel_rfl) (by kernel_rfl) (fun _ _ _ h => h) hS (fun L W hL hW => by go_simp; rfl) ?_
        refine g_take (i := 10) rfl rfl (by kernel_rfl) (by kernel_rfl) (by kernel_rfl) (by kernel_rfl) (by kernel_rfl) (fun _ _ _ h => h) hS (fun L W hL hW => by go_simp; rfl) ?_
        refine g_one (i := 9) rfl rfl (by kernel_rfl) fun K hK => ?_
        go_simp
        refine Calls.mono (join_any (w := w3.drew) (B := w3.heap.size) (Nat.le_refl _) A1 A c1 c l1 y n1 p HL1.out HT.out (by omega) (by omega) HB1.out HIW.out) ?_
        rintro e w5 ⟨u, rfl, hown, hb5⟩
        generalize (l1 ++ y).length = n5 at hown
        obtain ⟨A5, c5, hu⟩ := own_form hown
        subst hu
        have HREF := Lib.hid (HS5.out.own hb5 hown)
        have HS6 := Lib.hid (HS5.out.below hb5)
        clear hown hb5
        have hS : (false = true) ∨ Blk w5 w.heap.size 53 X := .inr HS6.out.box
        refine hK _ _ hS ?_
        clear hK K
        refine g_take (i := 11) rfl rfl (by kernel_rfl) (by kernel_rfl) (by kernel_rfl) (by kernel_rfl) (by kernel_rfl) (fun _ _ _ h => h) hS (fun L W hL hW => by go_simp; rfl) ?_
        refine g_take (i := 12) rfl rfl (by kernel_rfl) (by kernel_rfl) (by kernel_rfl) (by kernel_rfl) (by kernel_rfl) (fun _ _ _ h => h) hS (fun L W hL hW => by go_simp; rfl) ?_
        refine g_one (i := 13) rfl rfl (by kernel_rfl) fun K hK => ?_
        have qa := HS6.out.box.at_ 4 xl
        have qf := HS6.out.box.frozen 4
        go_simp
        refine hK _ _ (.inl rfl) ?_
        clear hK K qa qf
        refine wpAnyG_done (by kernel_rfl) ?_ _
        go_simp
        have HX7 := Lib.hid (HXP.out (A5, n5, c5))
        have HS7 := Lib.hid ((HS6.out.re (HRP.out w5 (A5, n5, c5) HS6.out.rv HREF.out)).cell 4 (.slice A5 n5 c5))
        clear HXP HRP HREF HS6 HS5 HL1 HB1 HIW HT
        simp only at HX7 HS7
        generalize X.setIfInBounds 4 (.slice A5 n5 c5) = X7 at *
        generalize World.setCell _ ⟨w.heap.size, 4, none⟩ _ = w7 at *
        have HO := Lib.hid (HS7.out.out HX7.out 3)
        rw [← HR.out] at HO
        go_wp2_with (first | (refine wpList_load_row rfl 53 (.tmp 3) rfl w.heap.size rfl 53 X7 _ _ HS7.out.box.out Try.underlying53 rfl (by rw [rx_size HX7.out]; kernel_rfl) ?_) | (refine wpList_put_row rfl rfl 53 (.tmp 6) _ rfl (w.heap.size + 1) rfl 53 _ X7 rfl HS7.out.res (by rw [rx_size HX7.out]; kernel_rfl) (by rw [rx_size HX7.out]; rfl) (rx_one HX7.out) ?_))
        refine bodyPost_ret (results_cell_row2 rfl _ _ (w.heap.size + 1) 53 X7 (0, 0) _ rfl (HS7.out.res.row X7).out Try.underlying53 rfl (by rw [rx_size HX7.out]; kernel_rfl)) rfl ?_
        exact HO.out
      · rw [if_pos rfl] at HR
        have u2 : ¬ (p : Int) < (n : Int) := by omega
        have HTK : Hid (b.take n = b.take p) := Lib.hid (by rw [List.take_of_length_le (by have := HN.out; omega), List.take_of_length_le (by have := HN.out; omega)])
        have u3 : (n : Int) ≤ (c : Int) := by omega
        have hq : n ≤ 1048576 := by omega
        have HT : Hid (n = (b.take n).length) := Lib.hid (by rw [List.length_take]; have := HN.out; omega)
        clear hlt
        have q11 := (HS.out.put X2).box.at_ 11 x11
        go_wp2_with (refine wpList_put_row rfl rfl 53 (.tmp 3) _ rfl w.heap.size rfl 53 X X2 rfl HS.out.box (by rw [rx_size HX2.out]; kernel_rfl) (by rw [rx_size HX.out, rx_size HX2.out]) (rx_one HX2.out) ?_)
        have HS4 := Lib.hid ((HS.out.put X2).kills hfu2)
        have HX4 := HX2
        clear HS HX HX2 hfu2
        generalize w2.setRow w.heap.size X2 = w3 at *
        generalize X2 = X at *
        go_upto_region 11 with fail
        clear u2 q11
        have HL1 := Lib.hid HS4.out.rv.b1.len
        have HB1 := Lib.hid HS4.out.rv.b1.bytes
        have hl1 : ((killed s).all 1).length ≤ 1048576 := by rw [(killed_all s).1]; have := HOK.out.room; have := HOK.out.cap; omega
        have hn1 : (v 4).2.1 ≤ 1048576 := by have h1 := HL1.out; rw [List.length_drop] at h1; omega
        have HIW := Lib.hid (Row.more (Bytes.head (l := b) (Row.below HI.out HS4.out.low) n) HS4.out.low.size)
        have HRP := Lib.hid (fun (W : World) (x : Sl) (hr : RV W (Two F w.heap.size) (killed s) v cl2 (p : Int)) => RV.puts1 (b := b) (q := p) (x := x) hr (by rw [(killed_all s).1, (killed_all s).2.1]; exact HOK.out.safe 1 (by omega)))
        rw [← HTK.out] at HRP
        have HY : Hid (X.setIfInBounds 4 = X.setIfInBounds 4) := Lib.hid rfl
        have HXP := Lib.hid (fun (x : Sl) => (show (rcells (killed s) v cl2 (p : Int)).setIfInBounds 4 (.slice x.1 x.2.1 x.2.2) = rcells (putD 1 b p (killed s)) (upd v 4 x) cl2 (p : Int) from rfl))
        rw [← HX4.out] at HXP
        clear HI hl1 HTK HY HX4
        generalize b.take n = y at *
        generalize ((killed s).all 1).drop ((killed s).safe 1) = l1 at *
        generalize hvs : v 4 = x1 at *
        obtain ⟨A1, n1, c1⟩ := x1
        simp only at hn1 HL1 HB1 xl
        clear hvs
        refine wp_region_heldG [13] (fun cc W => cc 13 = true ∨ Blk W w.heap.size 53 X) (by kernel_rfl) ?_
        change wpAnyG _ _ _ _ _ _ 14 _ _ (World.drew _)
        have HS5 := Lib.hid HS4.out.drew
        clear HS4
        have hS : (false = true) ∨ Blk w3.drew w.heap.size 53 X := .inr HS5.out.box
        -- take0 take1 take2 take3 take4 take5 take6 take7 take8 take10 one9 take11 take12 one13 done
        refine g_take (i := 0) rfl rfl (by kernel_rfl) (by kernel_rfl) (by kernel_rfl) (by kernel_rfl) (by kernel_rfl) (fun _ _ _ h => h) hS (fun L W hL hW => by go_simp; rfl) ?_
        refine g_take (i := 1) rfl rfl (by kernel_rfl) (by kernel_rfl) (by kernel_rfl) (by kernel_rfl) (by kernel_rfl) (fun _ _ _ h => h) hS (fun L W hL hW => by go_simp; rfl) ?_
        refine g_take (i := 2) rfl rfl (by kernel_rfl) (by kernel_rfl) (by kernel_rfl) (by kernel_rfl) (by kernel_rfl) (fun _ _ _ h => h) hS (fun L W hL hW => by go_simp; rfl) ?_
        refine g_take (i := 3) rfl rfl (by kernel_rfl) (by kernel_rfl) (by kernel_rfl) (by kernel_rfl) (by kernel_rfl) (fun _ _ _ h => h) hS (fun L W hL hW => by go_simp; rfl) ?_
        refine g_take (i := 4) rfl rfl (by kernel_rfl) (by kernel_rfl) (by kernel_rfl) (by kernel_rfl) (by kernel_rfl) (fun _ _ _ h => h) hS (fun L W hL hW => by go_simp; rfl) ?_
        refine g_take (i := 5) rfl rfl (by kernel_rfl) (by kernel_rfl) (by kernel_rfl) (by kernel_rfl) (by kernel_rfl) (fun _ _ _ h => h) hS (fun L W hL hW => by have q := (hW.resolve_left (by simp [came, hL 13 (by kernel_rfl)])).at_ 4 xl; go_simp; rfl) ?_
        refine g_take (i := 6) rfl rfl (by kernel_rfl) (by kernel_rfl) (by kernel_rfl) (by kernel_rfl) (by kernel_rfl) (fun _ _ _ h => h) hS (fun L W hL hW => by go_simp; rfl) ?_
        refine g_take (i := 7) rfl rfl (by kernel_rfl) (by kernel_rfl) (by kernel_rfl) (by kernel_rfl) (by kernel_rfl) (fun _ _ _ h => h) hS (fun L W hL hW => by go_simp; rfl) ?_
        refine g_take (i := 8) rfl rfl (by kernel_rfl) (by kernel_rfl) (by kernel_rfl) (by kernel_rfl) (by kernel_rfl) (fun _ _ _ h => h) hS (fun L W hL hW => by go_simp; rfl) ?_
        refine g_take (i := 10) rfl rfl (by kernel_rfl) (by kernel_rfl) (by kernel_rfl) (by kernel_rfl) (by kernel_rfl) (fun _ _ _ h => h) hS (fun L W hL hW => by go_simp; rfl) ?_
        refine g_one (i := 9) rfl rfl (by kernel_rfl) fun K hK => ?_
        go_simp
        refine Calls.mono (join_any (w := w3.drew) (B := w3.heap.size) (Nat.le_refl _) A1 A c1 c l1 y n1 n HL1.out HT.out (by omega) (by omega) HB1.out HIW.out) ?_
        rintro e w5 ⟨u, rfl, hown, hb5⟩
        generalize (l1 ++ y).length = n5 at hown
        obtain ⟨A5, c5, hu⟩ := own_form hown
        subst hu
        have HREF := Lib.hid (HS5.out.own hb5 hown)
        have HS6 := Lib.hid (HS5.out.below hb5)
        clear hown hb5
        have hS : (false = true) ∨ Blk w5 w.heap.size 53 X := .inr HS6.out.box
        refine hK _ _ hS ?_
        clear hK K
        refine g_take (i := 11) rfl rfl (by kernel_rfl) (by kernel_rfl) (by kernel_rfl) (by kernel_rfl) (by kernel_rfl) (fun _ _ _ h => h) hS (fun L W hL hW => by go_simp; rfl) ?_
        refine g_take (i := 12) rfl rfl (by kernel_rfl) (by kernel_rfl) (by kernel_rfl) (by kernel_rfl) (by kernel_rfl) (fun _ _ _ h => h) hS (fun L W hL hW => by go_simp; rfl) ?_
        refine g_one (i := 13) rfl rfl (by kernel_rfl) fun K hK => ?_
        have qa := HS6.out.box.at_ 4 xl
        have qf := HS6.out.box.frozen 4
        go_simp
        refine hK _ _ (.inl rfl) ?_
        clear hK K qa qf
        refine wpAnyG_done (by kernel_rfl) ?_ _
        go_simp
        have HX7 := Lib.hid (HXP.out (A5, n5, c5))
        have HS7 := Lib.hid ((HS6.out.re (HRP.out w5 (A5, n5, c5) HS6.out.rv HREF.out)).cell 4 (.slice A5 n5 c5))
        clear HXP HRP HREF HS6 HS5 HL1 HB1 HIW HT
        simp only at HX7 HS7
        generalize X.setIfInBounds 4 (.slice A5 n5 c5) = X7 at *
        generalize World.setCell _ ⟨w.heap.size, 4, none⟩ _ = w7 at *
        have HO := Lib.hid (HS7.out.out HX7.out 3)
        rw [← HR.out] at HO
        go_wp2_with (first | (refine wpList_load_row rfl 53 (.tmp 3) rfl w.heap.size rfl 53 X7 _ _ HS7.out.box.out Try.underlying53 rfl (by rw [rx_size HX7.out]; kernel_rfl) ?_) | (refine wpList_put_row rfl rfl 53 (.tmp 6) _ rfl (w.heap.size + 1) rfl 53 _ X7 rfl HS7.out.res (by rw [rx_size HX7.out]; kernel_rfl) (by rw [rx_size HX7.out]; rfl) (rx_one HX7.out) ?_))
        refine bodyPost_ret (results_cell_row2 rfl _ _ (w.heap.size + 1) 53 X7 (0, 0) _ rfl (HS7.out.res.row X7).out Try.underlying53 rfl (by rw [rx_size HX7.out]; kernel_rfl)) rfl ?_
        exact HO.out
end
end Go.Proofs.Ytgajgjijnpigoaa.Dr
