/-
  The walk of crc.Join, and of the reference's Table and Next.
-/
import Derived.Test.YtgloncdlmdombaaCrcWalks2
namespace Go.Proofs.Ytgloncdlmdombaa.CrcW
open Go.RowKit Go.Proofs Go.Proofs.Ytgloncdlmdombaa Go.Proofs.Ytgloncdlmdombaa.Wd

/-- A linear map of registers. -/
structure Lin (f : Nat → Nat) : Prop where
  xor : ∀ a b, f (a ^^^ b) = f a ^^^ f b
  zero : f 0 = 0
  lt : ∀ n, n < 4294967296 → f n < 4294967296
theorem Lin.tab : Lin Crc.tab := ⟨Crc.tab_xor, Crc.tab_zero, fun _ => Crc.tab_lt⟩
theorem Lin.two {f : Nat → Nat} (h : Lin f) : Lin (fun x => f (f x)) := ⟨fun a b => by simp only [h.xor], by simp only [h.zero], fun n hn => h.lt _ (h.lt n hn)⟩
theorem Lin.cols {f : Nat → Nat} (h : Lin f) {n : Nat} (hn : n < 4294967296) : Crc.applyTo (fun i => f (2 ^ i)) n 32 = f n := Crc.applyTo_all h.xor h.zero hn (fun _ _ => rfl)
theorem Lin.colLt {f : Nat → Nat} (h : Lin f) (j : Nat) (hj : j < 32) : f (2 ^ j) < 4294967296 := h.lt _ (Nat.lt_of_lt_of_le (Nat.pow_lt_pow_right (by omega) hj) (by decide))
theorem Lin.twoCols {f : Nat → Nat} (h : Lin f) {cs : Array Value} (hc : Cols (fun i => Crc.applyTo (fun j => f (2 ^ j)) (f (2 ^ i)) 32) 32 cs) : Cols (fun i => f (f (2 ^ i))) 32 cs :=
  ⟨hc.1, hc.2.1, fun j hj => by rw [hc.2.2 j hj]; show some (Value.int .u32 ((Crc.applyTo (fun j => f (2 ^ j)) (f (2 ^ j)) 32 : Nat) : Int)) = _; rw [h.cols (h.colLt j hj)]⟩

theorem and1_i64 (k : Nat) (_hk : k ≤ 2147483647) : bits .and .i64 (k : Int) 1 = ((k % 2 : Nat) : Int) := by
  have h1 : (BitVec.ofInt 64 1).toNat = 2 ^ 1 - 1 := by decide
  have key : (BitVec.ofInt 64 (k : Int) &&& BitVec.ofInt 64 1).toNat = ((k : Int) % ((2 ^ 64 : Nat) : Int)).toNat % 2 ^ 1 := by
    rw [BitVec.toNat_and, BitVec.toNat_ofInt, h1, Nat.and_two_pow_sub_one_eq_mod]
  show IntKind.i64.wrap ((BitVec.ofInt 64 (k : Int) &&& BitVec.ofInt 64 1).toNat : Nat) = _
  rw [key, IntKind.wrap_i64]
  omega
theorem join_out (a b : Nat) (n : Int) (hn : n < 0 ∨ 2147483647 < n) (w : World) :
    Calls Try.prog 15 #[.int .u32 a, .int .u32 b, .int .i64 n] w fun e w' => e = .returned (.int .u32 a) ∧ w = w' := by
  by_cases h : n < 0
  · go_enter Try.func15, Try.ntmps15
    go_wp2
    go_ret
    exact ⟨rfl, rfl⟩
  · have h2 : 2147483647 < n := by omega
    go_enter Try.func15, Try.ntmps15
    go_wp2
    go_ret
    exact ⟨rfl, rfl⟩

set_option maxHeartbeats 1000000 in
theorem join_in (a b : Nat) (ha : a < 4294967296) (hbl : b < 4294967296) (n : Nat) (hn : n ≤ 2147483647) (w : World) :
    Calls Try.prog 15 #[.int .u32 a, .int .u32 b, .int .i64 n] w fun e w' => e = .returned (.int .u32 (Crc.join a b n : Nat)) ∧ Below w.heap.size w w' := by
  have h1 : ¬ (n : Int) < 0 := by omega
  have h2 : ¬ 2147483647 < (n : Int) := by omega
  go_enter Try.func15, Try.ntmps15
  go_wp2_with fail
  refine (nought_any _).mono ?_
  rintro e w1 ⟨⟨cs, rfl, hc⟩, hB1⟩
  go_wp2_with (refine wpList_put_row rfl rfl 40 _ _ rfl w1.heap.size rfl 40 _ cs rfl (Blk.new_ w1 _ _ rfl) (by rw [info40, hc.1]) (by rw [hc.1]; rfl) hc.2.1 ?_)
  have hB2 := below_setRow (hB1.alloc hB1.size (.cells #[.int .u32 0, .int .u32 0, .int .u32 0, .int .u32 0, .int .u32 0, .int .u32 0, .int .u32 0, .int .u32 0, .int .u32 0, .int .u32 0, .int .u32 0, .int .u32 0, .int .u32 0, .int .u32 0, .int .u32 0, .int .u32 0, .int .u32 0, .int .u32 0, .int .u32 0, .int .u32 0, .int .u32 0, .int .u32 0, .int .u32 0, .int .u32 0, .int .u32 0, .int .u32 0, .int .u32 0, .int .u32 0, .int .u32 0, .int .u32 0, .int .u32 0, .int .u32 0] 40)) hB1.size cs
  have hb := (Blk.new_ w1 40 #[.int .u32 0, .int .u32 0, .int .u32 0, .int .u32 0, .int .u32 0, .int .u32 0, .int .u32 0, .int .u32 0, .int .u32 0, .int .u32 0, .int .u32 0, .int .u32 0, .int .u32 0, .int .u32 0, .int .u32 0, .int .u32 0, .int .u32 0, .int .u32 0, .int .u32 0, .int .u32 0, .int .u32 0, .int .u32 0, .int .u32 0, .int .u32 0, .int .u32 0, .int .u32 0, .int .u32 0, .int .u32 0, .int .u32 0, .int .u32 0, .int .u32 0, .int .u32 0] rfl).row cs
  obtain ⟨W, hW⟩ : ∃ W, (w1.alloc (.cells #[.int .u32 0, .int .u32 0, .int .u32 0, .int .u32 0, .int .u32 0, .int .u32 0, .int .u32 0, .int .u32 0, .int .u32 0, .int .u32 0, .int .u32 0, .int .u32 0, .int .u32 0, .int .u32 0, .int .u32 0, .int .u32 0, .int .u32 0, .int .u32 0, .int .u32 0, .int .u32 0, .int .u32 0, .int .u32 0, .int .u32 0, .int .u32 0, .int .u32 0, .int .u32 0, .int .u32 0, .int .u32 0, .int .u32 0, .int .u32 0, .int .u32 0, .int .u32 0] 40)).setRow w1.heap.size cs = W := ⟨_, rfl⟩
  rw [hW] at hB2 hb ⊢
  have hg := hB1.size
  obtain ⟨g, hgg⟩ : ∃ g, g = w1.heap.size := ⟨_, rfl⟩
  rw [← hgg] at hb hg ⊢
  clear hW hgg hB1
  go_loopw [0, 2, 7] (fun v i p wr => ∃ (k x g : Nat) (f : Nat → Nat) (cs : Array Value), k ≤ n ∧ i = .int .i64 k ∧ v = .int .u32 x ∧ x < 4294967296 ∧ p = .pointer (some ⟨g, 0, none⟩) ∧ w.heap.size ≤ g ∧ Blk wr g 40 cs ∧ Cols (fun i => f (2 ^ i)) 32 cs ∧ Lin f ∧ Crc.iter f k x = Crc.iter Crc.tab n a ∧ Below w.heap.size w wr) (fun _ i _ _ => (intOf i).toNat)
  case atStart => exact ⟨n, a, g, Crc.tab, cs, Nat.le_refl _, rfl, rfl, ha, rfl, hg, hb, hc, Lin.tab, rfl, hB2⟩
  case round =>
    clear hb hc hB2 hg
    obtain ⟨k, x, g, f, cs, hk, rfl, rfl, hx, rfl, hg, hb, hc, hf, hi, hB⟩ := hrel
    have HI := Lib.hid hi
    clear hi
    by_cases hk0 : 0 < k
    · have hand : bits .and .i64 (k : Int) 1 = ((k % 2 : Nat) : Int) := and1_i64 k (by omega)
      by_cases hbit : k % 2 = 1
      · have h1 : (bits .and .i64 (k : Int) 1 == 1) = true := by rw [hand, hbit]; rfl
        have hs : Crc.iter (fun y => f (f y)) (k / 2) (f x) = Crc.iter Crc.tab n a := by
          rw [← HI.out, ← Crc.iter_two, show k = 2 * (k / 2) + 1 by omega]
          rw [show (2 * (k / 2) + 1) / 2 = k / 2 by omega]; rfl
        have HS := Lib.hid hs
        clear hs hand hbit
        go_wp2_with (refine wpList_load_row rfl 40 _ rfl g rfl _ cs _ _ hb Try.underlying40 rfl (by rw [info40, hc.1]) ?_)
        have hap := apply_any (fun i => f (2 ^ i)) cs x hx hc.1 (fun j hj => Array.getElem_eq_iff.2 (hc.2.2 j hj)) hf.colLt wr
        rw [hf.cols hx] at hap
        refine hap.mono ?_
        clear hap
        rintro e W2 ⟨rfl, hB2'⟩
        have hbW := hb.below hB2' hb.lt
        have hBW := hB.trans (hB2'.mono hB.size)
        clear hB2' hb hB
        go_wp2_with (refine wpList_load_row rfl 40 _ rfl g rfl _ cs _ _ hbW Try.underlying40 rfl (by rw [info40, hc.1]) ?_)
        refine (twice_any _ cs hc hf.colLt _).mono ?_
        rintro e W3 ⟨⟨ds, rfl, hd0⟩, hB3⟩
        have hd := hf.twoCols hd0
        clear hd0
        have hb3 := hbW.below hB3 hbW.lt
        have hBB := hBW.trans (hB3.mono hBW.size)
        clear hBW hbW hB3
        have hb4 := hb3.row ds
        have hB4 := below_setRow hBB hg ds
        go_wp2_with (first | (refine wpList_put_row rfl rfl 40 _ _ rfl g rfl 40 _ ds rfl hb3 (by rw [info40, hd.1]) (by rw [hc.1, hd.1]) hd.2.1 ?_) | (refine wpList_load_row rfl 40 _ rfl g rfl _ ds _ _ hb4 Try.underlying40 rfl (by rw [info40, hd.1]) ?_) | (refine wpList_put_row rfl rfl 40 _ _ rfl W3.heap.size rfl 40 _ ds rfl (Blk.new_ _ _ _ (by simp)) (by rw [info40, hd.1]) (by rw [hd.1]; rfl) hd.2.1 ?_))
        have hb5 := (Blk.new_ (W3.setRow g ds) 40 #[.int .u32 0, .int .u32 0, .int .u32 0, .int .u32 0, .int .u32 0, .int .u32 0, .int .u32 0, .int .u32 0, .int .u32 0, .int .u32 0, .int .u32 0, .int .u32 0, .int .u32 0, .int .u32 0, .int .u32 0, .int .u32 0, .int .u32 0, .int .u32 0, .int .u32 0, .int .u32 0, .int .u32 0, .int .u32 0, .int .u32 0, .int .u32 0, .int .u32 0, .int .u32 0, .int .u32 0, .int .u32 0, .int .u32 0, .int .u32 0, .int .u32 0, .int .u32 0] (n := W3.heap.size) (by simp)).row ds
        have hB5 := below_setRow (hB4.alloc (by simp; exact hBB.size) (.cells #[.int .u32 0, .int .u32 0, .int .u32 0, .int .u32 0, .int .u32 0, .int .u32 0, .int .u32 0, .int .u32 0, .int .u32 0, .int .u32 0, .int .u32 0, .int .u32 0, .int .u32 0, .int .u32 0, .int .u32 0, .int .u32 0, .int .u32 0, .int .u32 0, .int .u32 0, .int .u32 0, .int .u32 0, .int .u32 0, .int .u32 0, .int .u32 0, .int .u32 0, .int .u32 0, .int .u32 0, .int .u32 0, .int .u32 0, .int .u32 0, .int .u32 0, .int .u32 0] 40)) hBB.size ds
        have hg5 := hBB.size
        clear hb4 hB4 hBB hb3
        go_roundw
        case rel => exact ⟨k / 2, _, W3.heap.size, fun y => f (f y), ds, by omega, by go_num, rfl, hf.lt x hx, rfl, hg5, hb5, hd, hf.two, HS.out, hB5⟩
        case measure => simp [intOf]; omega
      · have h1 : (bits .and .i64 (k : Int) 1 == 1) = false := by rw [hand, show k % 2 = 0 by omega]; rfl
        have hs : Crc.iter (fun y => f (f y)) (k / 2) x = Crc.iter Crc.tab n a := by
          rw [← HI.out, ← Crc.iter_two, show 2 * (k / 2) = k by omega]
        have HS := Lib.hid hs
        clear hs hand hbit
        have hbW := hb
        have hBW := hB
        clear hb hB
        go_wp2_with (refine wpList_load_row rfl 40 _ rfl g rfl _ cs _ _ hbW Try.underlying40 rfl (by rw [info40, hc.1]) ?_)
        refine (twice_any _ cs hc hf.colLt _).mono ?_
        rintro e W3 ⟨⟨ds, rfl, hd0⟩, hB3⟩
        have hd := hf.twoCols hd0
        clear hd0
        have hb3 := hbW.below hB3 hbW.lt
        have hBB := hBW.trans (hB3.mono hBW.size)
        clear hBW hbW hB3
        have hb4 := hb3.row ds
        have hB4 := below_setRow hBB hg ds
        go_wp2_with (first | (refine wpList_put_row rfl rfl 40 _ _ rfl g rfl 40 _ ds rfl hb3 (by rw [info40, hd.1]) (by rw [hc.1, hd.1]) hd.2.1 ?_) | (refine wpList_load_row rfl 40 _ rfl g rfl _ ds _ _ hb4 Try.underlying40 rfl (by rw [info40, hd.1]) ?_) | (refine wpList_put_row rfl rfl 40 _ _ rfl W3.heap.size rfl 40 _ ds rfl (Blk.new_ _ _ _ (by simp)) (by rw [info40, hd.1]) (by rw [hd.1]; rfl) hd.2.1 ?_))
        have hb5 := (Blk.new_ (W3.setRow g ds) 40 #[.int .u32 0, .int .u32 0, .int .u32 0, .int .u32 0, .int .u32 0, .int .u32 0, .int .u32 0, .int .u32 0, .int .u32 0, .int .u32 0, .int .u32 0, .int .u32 0, .int .u32 0, .int .u32 0, .int .u32 0, .int .u32 0, .int .u32 0, .int .u32 0, .int .u32 0, .int .u32 0, .int .u32 0, .int .u32 0, .int .u32 0, .int .u32 0, .int .u32 0, .int .u32 0, .int .u32 0, .int .u32 0, .int .u32 0, .int .u32 0, .int .u32 0, .int .u32 0] (n := W3.heap.size) (by simp)).row ds
        have hB5 := below_setRow (hB4.alloc (by simp; exact hBB.size) (.cells #[.int .u32 0, .int .u32 0, .int .u32 0, .int .u32 0, .int .u32 0, .int .u32 0, .int .u32 0, .int .u32 0, .int .u32 0, .int .u32 0, .int .u32 0, .int .u32 0, .int .u32 0, .int .u32 0, .int .u32 0, .int .u32 0, .int .u32 0, .int .u32 0, .int .u32 0, .int .u32 0, .int .u32 0, .int .u32 0, .int .u32 0, .int .u32 0, .int .u32 0, .int .u32 0, .int .u32 0, .int .u32 0, .int .u32 0, .int .u32 0, .int .u32 0, .int .u32 0] 40)) hBB.size ds
        have hg5 := hBB.size
        clear hb4 hB4 hBB hb3
        go_roundw
        case rel => exact ⟨k / 2, _, W3.heap.size, fun y => f (f y), ds, by omega, by go_num, rfl, hx, rfl, hg5, hb5, hd, hf.two, HS.out, hB5⟩
        case measure => simp [intOf]; omega
    · obtain rfl : k = 0 := by omega
      have hxb : bits .xor .u32 (x : Int) (b : Int) = ((Crc.join a b n : Nat) : Int) := by
        unfold Crc.join; rw [← HI.out]; exact xor32 x b hx hbl
      have HX := Lib.hid hxb
      clear hxb
      go_wp2
      go_ret
      exact ⟨ret_u32 HX.out, hB⟩

theorem ret_val {a b : Int} (h : a = b) : Value.int .u32 a = .int .u32 b := by rw [h]
theorem u32rem2 (n : Nat) : (n : Int) % 2 = ((n % 2 : Nat) : Int) := by omega
theorem reftable_any (i : Nat) (hi : i < 256) (w : World) :
    Calls Try.prog 10 #[.int .u8 i] w fun e w' => e = .returned (.int .u32 (Crc.tab i : Nat)) ∧ w = w' := by
  go_enter Try.func10, Try.ntmps10
  go_wp2
  go_loop [3, 4] (fun v k => ∃ j : Nat, j ≤ 8 ∧ k = .int .i64 j ∧ v = .int .u32 (Crc.iter Crc.half j i : Nat)) (fun _ k => 8 - (intOf k).toNat)
  case atStart => exact ⟨0, Nat.zero_le _, rfl, rfl⟩
  case round =>
    obtain ⟨j, hj, rfl, rfl⟩ := hrel
    by_cases hlt : j < 8
    · have hl := Crc.iter_lt (f := Crc.half) (fun _ => Crc.half_lt) j (n := i) (by omega)
      have HS := Lib.hid (Crc.iter_succ Crc.half j i)
      generalize Crc.iter Crc.half j i = y at hl HS ⊢
      by_cases hbit : y % 2 = 1
      · have h1 : ((y : Int) % 2 == 1) = true := by rw [u32rem2, hbit]; rfl
        have hx : bits .xor .u32 ((y : Int) / 2) 3988292384 = ((Crc.half y : Nat) : Int) := by
          unfold Crc.half; rw [if_pos hbit]; exact xor32 (y / 2) 3988292384 (by omega) (by decide)
        have HX := Lib.hid hx
        clear hx hbit
        go_wp2
        go_round
        case rel => exact ⟨j + 1, by omega, by go_num, by rw [HS.out, HX.out]⟩
        case measure => simp [intOf]; omega
      · have h1 : ((y : Int) % 2 == 1) = false := by rw [u32rem2, show y % 2 = 0 by omega]; rfl
        have hx : (y : Int) / 2 = ((Crc.half y : Nat) : Int) := by unfold Crc.half; rw [if_neg hbit]; omega
        have HX := Lib.hid hx
        clear hx hbit
        go_wp2
        go_round
        case rel => exact ⟨j + 1, by omega, by go_num, by rw [HS.out, ← HX.out]⟩
        case measure => simp [intOf]; omega
    · obtain rfl : j = 8 := by omega
      go_wp2
      go_ret
      exact ⟨rfl, rfl⟩

theorem refnext_any (s b : Nat) (hs : s < 4294967296) (hb : b < 256) (w : World) :
    Calls Try.prog 12 #[.int .u32 s, .int .u8 b] w fun e w' => e = .returned (.int .u32 (Crc.nxt s b : Nat)) ∧ w = w' := by
  have hfin : ((4294967295 : Int) - ((Crc.rsteps 8 (4294967295 - s, b)).1 : Nat)) = ((Crc.nxt s b : Nat) : Int) := by
    have hl := Crc.rsteps_lt 8 (s := (4294967295 - s, b)) (by show 4294967295 - s < _; omega)
    rw [Crc.rsteps_eight hb] at hl ⊢
    unfold Crc.nxt
    rw [Crc.top_xor hs, Crc.top_xor hl]; omega
  have HF := Lib.hid hfin
  clear hfin
  go_enter Try.func12, Try.ntmps12
  go_wp2
  go_loop [5, 6, 7] (fun r x k => ∃ j : Nat, j ≤ 8 ∧ k = .int .i64 j ∧ r = .int .u32 ((Crc.rsteps j (4294967295 - s, b)).1 : Nat) ∧ x = .int .u32 ((Crc.rsteps j (4294967295 - s, b)).2 : Nat)) (fun _ _ k => 8 - (intOf k).toNat)
  case atStart => exact ⟨0, Nat.zero_le _, rfl, ret_val (by show (4294967295 : Int) - (s : Int) = ((4294967295 - s : Nat) : Int); omega), rfl⟩
  case round =>
    obtain ⟨j, hj, rfl, rfl, rfl⟩ := hrel
    have hl := Crc.rsteps_lt j (s := (4294967295 - s, b)) (by show 4294967295 - s < _; omega)
    by_cases hlt : j < 8
    · have hl2 := Crc.rsteps_le2 j (s := (4294967295 - s, b))
      have HS := Lib.hid (show Crc.rsteps (j + 1) (4294967295 - s, b) = Crc.rstep (Crc.rsteps j (4294967295 - s, b)) from rfl)
      have hb2 : (Crc.rsteps j (4294967295 - s, b)).2 < 256 := Nat.lt_of_le_of_lt hl2 hb
      clear hl2
      generalize Crc.rsteps j (4294967295 - s, b) = p at hl hb2 HS ⊢
      obtain ⟨r, x⟩ := p
      dsimp only at hl hb2 ⊢
      have hmod : ((r : Int) + x) % 4294967296 % 2 = (((r + x) % 2 : Nat) : Int) := by omega
      by_cases hbit : (r + x) % 2 = 1
      · have h1 : (((r : Int) + x) % 4294967296 % 2 == 1) = true := by rw [hmod, hbit]; rfl
        have hx : bits .xor .u32 ((r : Int) / 2) 3988292384 = (((Crc.rstep (r, x)).1 : Nat) : Int) := by
          unfold Crc.rstep; dsimp only; rw [if_pos hbit]; exact xor32 (r / 2) 3988292384 (by omega) (by decide)
        have HX := Lib.hid hx
        clear hx hbit hmod
        go_wp2
        go_round
        case rel => exact ⟨j + 1, by omega, by go_num, by rw [HS.out, HX.out], by rw [HS.out]; rfl⟩
        case measure => simp [intOf]; omega
      · have h1 : (((r : Int) + x) % 4294967296 % 2 == 1) = false := by rw [hmod, show (r + x) % 2 = 0 by omega]; rfl
        have hx : (r : Int) / 2 = (((Crc.rstep (r, x)).1 : Nat) : Int) := by unfold Crc.rstep; dsimp only; rw [if_neg hbit]; omega
        have HX := Lib.hid hx
        clear hx hbit hmod
        go_wp2
        go_round
        case rel => exact ⟨j + 1, by omega, by go_num, by rw [HS.out, ← HX.out], by rw [HS.out]; rfl⟩
        case measure => simp [intOf]; omega
    · obtain rfl : j = 8 := by omega
      go_wp2
      go_ret
      exact ⟨ret_u32 HF.out, rfl⟩
end Go.Proofs.Ytgloncdlmdombaa.CrcW
