/-
  The walks of the reference's records.
-/
import Derived.Test.YtnclbonoenjbeaaRecLow
namespace Go.Proofs.Ytnclbonoenjbeaa.RecW
set_option linter.unusedVariables false
open Go.RowKit Go.Proofs Go.Proofs.Ytnclbonoenjbeaa Go.Proofs.Ytnclbonoenjbeaa.Wd Go.Proofs.Ytnclbonoenjbeaa.CrcW
open Go.Proofs.Ytnclbonoenjbeaa.Crc (sumB sumB_lt)
open Go.Proofs.Ytnclbonoenjbeaa.Rec (R four number fine takeErr takeEnd takeRec putErr number_lt)

theorem four_get (n k : Nat) (hk : k < 4) : (four n)[k]'(by simpa [Rec.four_length] using hk) = UInt8.ofNat (n / 256 ^ k) := by
  unfold four
  match k, hk with
  | 0, _ => simp
  | 1, _ => simp
  | 2, _ => simp
  | 3, _ => simp
theorem four_snoc (n k : Nat) (hk : k < 4) : bs ((four n).take (k + 1)) = bs ((four n).take k) ++ [.int .u8 (((n / 256 ^ k % 256 : Nat)) : Int)] := by
  rw [List.take_succ_eq_append_getElem (by simpa [Rec.four_length] using hk), bs_append, four_get n k hk]
  simp [bs, UInt8.toNat_ofNat']

theorem ret_i64 {a b : Int} (h : a = b) : Ending.returned (.int .i64 a) = .returned (.int .i64 b) := by rw [h]
set_option maxHeartbeats 1000000 in
theorem reffour_any (n : Nat) (hn : n < 4294967296) (w : World) :
    Calls Try.prog 35 #[.int .i64 n] w (Fresh w 4 (four n)) := by
  obtain ⟨i0, hi0, hz0, hz1, hz2⟩ := info_parts infoU8
  go_enter Try.func35, Try.ntmps35
  go_wp2
  go_loopw [0, 3, 4] (fun y v i wr => ∃ k : Nat, k ≤ 4 ∧ i = .int .i64 k ∧ y = .int .i64 (n / 256 ^ k : Nat) ∧ wr.ownsRow w.heap.size 5 1 v k (bs ((four n).take k)) ∧ Below w.heap.size w wr) (fun _ _ i _ => 4 - (intOf i).toNat)
  case atStart => exact ⟨0, Nat.zero_le _, rfl, by simp, own_nil _ _ _, Below.refl _ _⟩
  case round =>
    obtain ⟨k, hk, rfl, rfl, hown, hB⟩ := hrel
    by_cases hlt : k < 4
    · have hle : n / 256 ^ k < 4294967296 := Nat.lt_of_le_of_lt (Nat.div_le_self _ _) hn
      have HD := Lib.hid (show n / 256 ^ (k + 1) = n / 256 ^ k / 256 by rw [Nat.pow_succ, Nat.div_div_eq_div_mul])
      have HS := Lib.hid (four_snoc n k hlt)
      generalize n / 256 ^ k = y at *
      go_wp2_with (at_builtin; refine wpList_append_lies _ rfl (.tmp 9) (.tmp 13) _ rfl w.heap.size 5 i0 _ 1 1 Try.underlying24 hi0 hz0 hz1 hz2 rfl (by omega) _ k _ rfl (hown.alloc _) ⟨wr.heap.size, 0, none⟩ 1 1 [.int .u8 ((y : Int) % 256)] rfl rfl (World.news_of_block (heap_alloc_new wr _)) (by intro u hu; simp at hu; subst hu; rfl) (by omega) (by unfold maxLen; omega) (by omega) (by have := hB.size; simp; omega) (wr.heap.size + 1) (by simp) ?_)
      intro g cap w1 hown1 hgrow hat hlt1
      have hBS := hB.size
      have hB1 : Below w.heap.size w w1 := (hB.alloc hBS _).grown hgrow (by simp; omega) (fun j hj => (own_row (hown.alloc (.cells #[.int .u8 ((y : Int) % 256)] 5)) hj).1)
      have HO := Lib.hid hown1
      clear hgrow hat hlt1 hown1 hB hown
      go_wp2
      go_roundw
      case rel => exact ⟨k + 1, by omega, by go_num, by rw [HD.out]; go_num, by rw [HS.out]; exact HO.out, hB1⟩
      case measure => simp [intOf]; omega
    · obtain rfl : k = 4 := by omega
      go_wp2
      go_ret
      exact ⟨_, rfl, hown, hB⟩

theorem number_wrap {x0 x1 x2 x3 : Nat} (b0 : x0 < 256) (b1 : x1 < 256) (b2 : x2 < 256) (b3 : x3 < 256) :
    wrap64 (wrap64 (wrap64 (wrap64 (x0 : Int) + wrap64 (256 * wrap64 (x1 : Int))) + wrap64 (65536 * wrap64 (x2 : Int))) + wrap64 (16777216 * wrap64 (x3 : Int))) = ((x0 + 256 * x1 + 65536 * x2 + 16777216 * x3 : Nat) : Int) := by
  have w0 : wrap64 (x0 : Int) = (x0 : Int) := IntWalk.wrap64_in _ (by omega)
  have w1 : wrap64 (x1 : Int) = (x1 : Int) := IntWalk.wrap64_in _ (by omega)
  have w2 : wrap64 (x2 : Int) = (x2 : Int) := IntWalk.wrap64_in _ (by omega)
  have w3 : wrap64 (x3 : Int) = (x3 : Int) := IntWalk.wrap64_in _ (by omega)
  have s1 : wrap64 (256 * (x1 : Int)) = 256 * (x1 : Int) := IntWalk.wrap64_in _ (by omega)
  have s2 : wrap64 (65536 * (x2 : Int)) = 65536 * (x2 : Int) := IntWalk.wrap64_in _ (by omega)
  have s3 : wrap64 (16777216 * (x3 : Int)) = 16777216 * (x3 : Int) := IntWalk.wrap64_in _ (by omega)
  rw [w0, w1, w2, w3, s1, s2, s3, IntWalk.wrap64_in ((x0 : Int) + 256 * (x1 : Int)) (by omega), IntWalk.wrap64_in ((x0 : Int) + 256 * (x1 : Int) + 65536 * (x2 : Int)) (by omega), IntWalk.wrap64_in ((x0 : Int) + 256 * (x1 : Int) + 65536 * (x2 : Int) + 16777216 * (x3 : Int)) (by omega)]
  omega
theorem refnumber_any (A : Option Addr) (c : Nat) (l : List UInt8) (n : Nat) (hn : n = l.length) (h4 : 4 ≤ l.length) (w : World) (hI : Bytes w w.heap.size A l) :
    Calls Try.prog 55 #[.slice A n c] w fun e w' => e = .returned (.int .i64 (number l : Nat)) ∧ Below w.heap.size w w' := by
  subst hn
  obtain ⟨b, off, rfl, hb, h0⟩ := hI.at_ (j := 0) (by omega)
  obtain ⟨_, _, e1, _, h1⟩ := hI.at_ (j := 1) (by omega)
  obtain ⟨_, _, e2, _, h2⟩ := hI.at_ (j := 2) (by omega)
  obtain ⟨_, _, e3, _, h3⟩ := hI.at_ (j := 3) (by omega)
  cases e1; cases e2; cases e3
  have i0 : (0 : Int) < (l.length : Int) := by omega
  have i1 : (1 : Int) < (l.length : Int) := by omega
  have i2 : (2 : Int) < (l.length : Int) := by omega
  have i3 : (3 : Int) < (l.length : Int) := by omega
  have hv : number l = l[0].toNat + 256 * l[1].toNat + 65536 * l[2].toNat + 16777216 * l[3].toNat := by
    unfold number; simp [show 0 < l.length by omega, show 1 < l.length by omega, show 2 < l.length by omega, show 3 < l.length by omega]
  rw [hv]
  rw [Nat.add_zero] at h0
  have b0 := l[0].toNat_lt; have b1 := l[1].toNat_lt; have b2 := l[2].toNat_lt; have b3 := l[3].toNat_lt
  clear hv
  generalize l[0].toNat = x0 at *
  generalize l[1].toNat = x1 at *
  generalize l[2].toNat = x2 at *
  generalize l[3].toNat = x3 at *
  have HB := Lib.hid (And.intro b0 (And.intro b1 (And.intro b2 b3)))
  clear b0 b1 b2 b3
  go_enter Try.func55, Try.ntmps55
  go_wp2
  go_quiet (fail)
  go_wp2
  go_ret
  obtain ⟨b0, b1, b2, b3⟩ := HB.out
  exact ⟨ret_i64 (number_wrap b0 b1 b2 b3), ⟨rfl, rfl, rfl, Nat.le_refl _, fun _ _ => rfl⟩⟩

set_option maxRecDepth 100000 in
set_option maxHeartbeats 2000000 in
theorem refput_any (k : UInt8) (A : Option Addr) (c : Nat) (d : List UInt8) (n : Nat) (hn : n = d.length) (hc : n ≤ c) (w : World) (hI : Bytes w w.heap.size A d) :
    Calls Try.prog 34 #[.agg #[.int .u8 (k.toNat : Nat), .slice A n c]] w (Wrote w (k, d)) := by
  subst hn
  have hz := Blk.new_ w 42 #[.int .u8 (k.toNat : Nat), .slice A d.length c] rfl
  have hB0 : Below w.heap.size w (w.alloc (.cells #[.int .u8 (k.toNat : Nat), .slice A d.length c] 42)) := (Below.refl _ w).alloc (Nat.le_refl _) _
  have hsz0 : w.heap.size < (w.alloc (.cells #[.int .u8 (k.toNat : Nat), .slice A d.length c] 42)).heap.size := hz.lt
  by_cases hk1 : k.toNat < 1
  · have he := Lib.hid (show putErr (k, d) = 30 by unfold putErr fine; rw [decide_eq_false (by dsimp only; omega)]; rfl)
    have h1 : decide ((k.toNat : Int) < 1) = true := by simp; omega
    go_enter Try.func34, Try.ntmps34
    go_wp2_with fail
    refine bodyPost_ret (v := .tuple #[.slice none 0 0, .int .i64 30]) (by simp [results, Try.results34, go_sem]) rfl ?_
    exact ⟨_, by rw [he.out]; rfl, hB0, fun _ => rfl, fun h => by rw [he.out] at h; cases h⟩
  have h1 : decide ((k.toNat : Int) < 1) = false := by simp; omega
  by_cases hk2 : 2 < k.toNat
  · have he := Lib.hid (show putErr (k, d) = 30 by unfold putErr fine; rw [decide_eq_false (p := k.toNat ≤ 2) (by omega), Bool.and_false]; rfl)
    have h2 : decide ((2 : Int) < (k.toNat : Int)) = true := by simp; omega
    go_enter Try.func34, Try.ntmps34
    go_wp2_with fail
    refine bodyPost_ret (v := .tuple #[.slice none 0 0, .int .i64 30]) (by simp [results, Try.results34, go_sem]) rfl ?_
    exact ⟨_, by rw [he.out]; rfl, hB0, fun _ => rfl, fun h => by rw [he.out] at h; cases h⟩
  have h2 : decide ((2 : Int) < (k.toNat : Int)) = false := by simp; omega
  have hf : fine k = true := by unfold fine; rw [decide_eq_true (by omega), decide_eq_true (by omega)]; rfl
  by_cases h4 : 4096 < d.length
  · have he := Lib.hid (show putErr (k, d) = 31 by unfold putErr; rw [hf, if_pos rfl, if_neg (by exact Nat.not_le.2 h4)])
    have h4' : (4096 : Int) < (d.length : Int) := by omega
    clear hf
    go_enter Try.func34, Try.ntmps34
    go_wp2_with fail
    refine bodyPost_ret (v := .tuple #[.slice none 0 0, .int .i64 31]) (by simp [results, Try.results34, go_sem]) rfl ?_
    exact ⟨_, by rw [he.out]; rfl, hB0, fun _ => rfl, fun h => by rw [he.out] at h; cases h⟩
  have he := Lib.hid (show putErr (k, d) = 0 by unfold putErr; rw [hf, if_pos rfl, if_pos (Nat.not_lt.1 h4)])
  have h4' : ¬ (4096 : Int) < (d.length : Int) := by omega
  clear hf
  obtain ⟨i0, hi0, hz0, hz1, hz2⟩ := info_parts infoU8
  go_enter Try.func34, Try.ntmps34
  go_wp2_with (at_builtin; refine wpList_append_lies _ rfl (.tmp 17) (.tmp 20) _ rfl (w.heap.size + 1) 5 i0 _ 1 1 Try.underlying24 hi0 hz0 hz1 hz2 rfl (by omega) _ 0 [] rfl (own_nil _ _ _) ⟨w.heap.size + 1, 0, none⟩ 1 1 [.int .u8 (k.toNat : Nat)] rfl rfl (World.news_of_block (by rw [show w.heap.size + 1 = (w.alloc (.cells #[.int .u8 (k.toNat : Nat), .slice A d.length c] 42)).heap.size by simp]; exact heap_alloc_new _ _)) (by intro u hu; simp at hu; subst hu; rfl) (by omega) (by unfold maxLen; omega) (by omega) (by simp) (w.heap.size + 1 + 1) (by simp) ?_)
  intro g1 cap1 w1 hown1 hgrow hat hlt1
  have hS1 : Below (w.heap.size + 1) (w.alloc (.cells #[.int .u8 (k.toNat : Nat), .slice A d.length c] 42)) w1 := ((Below.refl _ _).alloc (by simp) _).grown hgrow (by simp) (by simp [Value.ownBlock])
  clear hgrow hat hlt1
  generalize w.alloc (.cells #[.int .u8 (k.toNat : Nat), .slice A d.length c] 42) = w0 at *
  have hz1' := hz.below hS1 (Nat.lt_succ_self _)
  have c1 : w1.cell? ⟨w.heap.size, 1, none⟩ = some (.slice A d.length c) := Blk.at_ hz1' 1 rfl
  have ho1 : w1.ownsRow (w.heap.size + 1) 5 1 (.slice (some ⟨g1, 0, none⟩) (0 + 1) cap1) 1 (bs [k]) := hown1
  clear hown1
  go_wp2_with fail
  refine Calls.mono (reffour_any d.length (by omega) _) ?_
  rintro e w2 ⟨v2, rfl, ho2, hb2⟩
  obtain ⟨A2, c2, rfl, _, e4, hR2⟩ := own_bytes ho2
  clear e4
  have hS2 := hS1.trans (hb2.mono (by have := hS1.size; omega))
  have ho1' := own_below ho1 hb2
  clear ho1 ho2 c1 hz1'
  go_wp2_with (at_builtin; refine wpList_append_row _ rfl (.tmp 22) (.tmp 26) _ rfl (w.heap.size + 1) 5 i0 _ 1 Try.underlying24 hi0 hz0 hz1 hz2 rfl _ 1 (bs [k]) rfl ho1' w2.heap.size A2 4 c2 (bs (four d.length)) rfl rfl hR2 (bs_one _) (by unfold maxLen; omega) (by omega) (by have := hS2.size; omega) ?_)
  intro v3 w3 ho3 hgrow _ _
  have hS3 := hS2.grown hgrow (by have := hS2.size; omega) (fun j hj => (own_row ho1' hj).1)
  have hz3 := hz.below hS3 (Nat.lt_succ_self _)
  have c1 : w3.cell? ⟨w.heap.size, 1, none⟩ = some (.slice A d.length c) := Blk.at_ hz3 1 rfl
  have hI3 : Bytes w3 w.heap.size A d := hI.below (hB0.trans (hS3.mono (Nat.le_succ _)))
  clear hgrow hR2 ho1' hb2 hS2 hS1
  go_wp2_with (at_builtin; refine wpList_append_row _ rfl (.tmp 28) (.tmp 30) _ rfl (w.heap.size + 1) 5 i0 _ 1 Try.underlying24 hi0 hz0 hz1 hz2 rfl _ (1 + 4) _ rfl ho3 w.heap.size A d.length c (bs d) rfl (bs_length d).symm hI3 (bs_one _) (by unfold maxLen; omega) (by omega) (by have := hS3.size; omega) ?_)
  intro v4 w4 ho4 hgrow _ _
  have hS4 := hS3.grown hgrow (by have := hS3.size; omega) (fun j hj => (own_row ho3 hj).1)
  have hB4 := hB0.trans (hS4.mono (Nat.le_succ _))
  clear hgrow ho3 hz3 c1 hI3 hS3
  obtain ⟨rs, hrs⟩ : ∃ rs, rs = Rec.rest (k, d) := ⟨_, rfl⟩
  have hr : bs [k] ++ (bs (four d.length) ++ bs d) = bs rs := by rw [hrs]; simp [bs, Rec.rest]
  have hrl : 5 + d.length = rs.length := by rw [hrs, Rec.rest_length]; show _ = d.length + 5; omega
  have hrx : rs.length ≤ 5000 := by omega
  have HRS := Lib.hid hrs
  rw [hr] at ho4
  rw [hrl] at ho4
  obtain ⟨A4, c4, rfl, hcc4, e4, hR4⟩ := own_bytes ho4
  clear e4
  clear hr hrs ho4 hrl
  go_wp2_with fail
  refine Calls.mono (refsum_any A4 c4 rs (by omega) _ hR4) ?_
  rintro e w5 ⟨rfl, rfl⟩
  have hsb := sumB_lt rs
  go_wp2_with fail
  refine Calls.mono (reffour_any _ hsb _) ?_
  rintro e w6 ⟨v6, rfl, ho6, hb6⟩
  have hB6 := hB4.trans (hb6.mono hB4.size)
  have hR6 := hR4.grow hb6
  clear hR4
  go_wp2_with (at_builtin; refine wpList_append_row _ rfl (.tmp 35) (.tmp 36) _ rfl w4.heap.size 5 i0 _ 1 Try.underlying24 hi0 hz0 hz1 hz2 rfl _ 4 _ rfl ho6 w6.heap.size A4 rs.length c4 (bs rs) rfl (bs_length rs).symm hR6 (bs_one _) (by unfold maxLen; omega) (by omega) (by have := hb6.size; omega) ?_)
  intro v7 w7 ho7 hgrow _ _
  have hB7 := hB6.grown hgrow hB6.size (fun j hj => Nat.le_trans hB4.size (own_row ho6 hj).1)
  go_wp2_with fail
  refine bodyPost_ret (v := .tuple #[v7, .int .i64 0]) (by simp [results, Try.results34, go_sem]) rfl ?_
  refine ⟨v7, by rw [he.out]; rfl, hB7, fun h => absurd he.out h, fun _ => ?_⟩
  have hb : Rec.bytes (k, d) = four (sumB rs) ++ rs := by unfold Rec.bytes; rw [← HRS.out]
  rw [hb, bs_append, List.length_append, four_len]
  exact own_base ho7 hB4.size
end Go.Proofs.Ytnclbonoenjbeaa.RecW
