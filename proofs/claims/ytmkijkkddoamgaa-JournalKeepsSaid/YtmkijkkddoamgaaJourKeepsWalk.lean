/-
  The walk of JournalKeeps.
-/
import Derived.Test.YtmkijkkddoamgaaJourBehind
import Derived.Test.YtmkijkkddoamgaaJourMade3
namespace Go.Proofs.Ytmkijkkddoamgaa.Jo
set_option linter.unusedVariables false
open Go Go.RowKit Go.Shelf Go.Proofs Go.Proofs.Ytmkijkkddoamgaa Go.Proofs.Ytmkijkkddoamgaa.Wd Go.Proofs.Ytmkijkkddoamgaa.Dk Go.Proofs.Ytmkijkkddoamgaa.Hd Go.Proofs.Ytmkijkkddoamgaa.HdW Go.Proofs.Ytmkijkkddoamgaa.BatW
open Go.Proofs.Ytmkijkkddoamgaa.Bat (B writ allRight)
theorem SB.z {w : World} {k : Nat} {v : Value} {d : List UInt8} (h : SB w k v d) : SBZ w (fun b => b < k) v d := h
theorem SR.z {w : World} {k : Nat} {v : Value} {ls : B} (h : SR w k v ls) : SRZ w (fun b => b < k) v ls := h
/-- Batches that lie in no block of the disk's, nor in the journal's. -/
def WZ (w : World) (F : Nat → Prop) (jb : Nat) (v : Value) (L : List B) : Prop := ∃ A c Z, v = .slice A L.length c ∧ L.length ≤ c ∧ c ≤ maxLen ∧ BRows3Z w Z A L ∧ ∀ b, Z b → b < w.heap.size ∧ ¬ F b ∧ b ≠ jb
section
variable {w w' : World} {F F' G : Nat → Prop} {jb : Nat} {v : Value} {L : List B}
theorem WZ.nil (w : World) (F : Nat → Prop) (jb : Nat) : WZ w F jb (.slice none 0 0) [] := ⟨none, 0, fun _ => False, rfl, Nat.le_refl _, by simp [maxLen], fun j hj => absurd hj (Nat.not_lt_zero _), fun b h => h.elim⟩
theorem WZ.fr (h : WZ w F jb v L) (hf : Fr G w w') (hG : ∀ k, G k → F k ∨ k = jb) (hF : ∀ k, F' k → F k ∨ w.heap.size ≤ k) : WZ w' F' jb v L := by
  obtain ⟨A, c, Z, h1, h2, h3, h4, h5⟩ := h
  refine ⟨A, c, Z, h1, h2, h3, h4.keep (SameZ.of_fr hf fun b hb => ⟨(h5 b hb).1, fun e => (hG b e).elim (h5 b hb).2.1 (h5 b hb).2.2⟩), fun b hb => ⟨Nat.lt_of_lt_of_le (h5 b hb).1 hf.size, out_of (h5 b hb).1 (h5 b hb).2.1 hF, (h5 b hb).2.2⟩⟩
theorem WZ.below (h : WZ w F jb v L) (hb : Below w.heap.size w w') : WZ w' F jb v L := h.fr (Fr.of_below hb (fun _ => False)) (fun _ h => h.elim) fun _ h => .inl h
theorem WZ.rows (h : WZ w F jb v L) : ∃ A c, v = .slice A L.length c ∧ L.length ≤ c ∧ c ≤ maxLen ∧ BRows3 w w.heap.size A L := by
  obtain ⟨A, c, Z, h1, h2, h3, h4, h5⟩ := h
  exact ⟨A, c, h1, h2, h3, h4.rows fun b hb => (h5 b hb).1⟩
end
/-- Are two the same? -/
theorem same_wz {w : World} {F G : Nat → Prop} {jb kb : Nat} {v u : Value} {L M : List B} (h : WZ w F jb v L) (h' : WZ w G kb u M) : Calls Try.prog 17 #[v, u] w fun e w' => e = .returned (.bool (decide (L = M))) ∧ Below w.heap.size w w' := by
  obtain ⟨A, c, rfl, h1, h2, h3⟩ := h.rows
  obtain ⟨A', c', rfl, h1', h2', h3'⟩ := h'.rows
  exact samebatches_any A A' c c' L M L.length M.length rfl rfl h1 h1' h2 h2' w h3 h3'
theorem at8_num {a : Nat} (ht : a < 256) : ∃ k : Nat, (a : Int).tmod 8 = (k : Int) ∧ IntKind.u8.wrap (k : Int) = (k : Int) ∧ wrap64 (k : Int) = (k : Int) ∧ k < 8 := by
  obtain ⟨r, hr⟩ : ∃ r, r = a % 8 := ⟨_, rfl⟩
  have t1 : (a : Int).tmod 8 = (r : Int) := by rw [Int.tmod_eq_emod_of_nonneg (Int.natCast_nonneg _)]; omega
  have hr5 : r < 8 := by omega
  clear hr
  exact ⟨r, t1, IntWalk.u8_in _ (by clear t1; omega), IntWalk.wrap64_in _ (by clear t1; omega), hr5⟩
theorem next_numK {i : Nat} (h : i < 1000) : wrap64 ((i : Int) + 1) = (i : Int) + 1 := IntWalk.wrap64_in _ (by omega)
theorem small_numK {i : Nat} (h : i < 1000) : wrap64 (i : Int) = (i : Int) := IntWalk.wrap64_in _ (by omega)
theorem next_numB {i n : Nat} (h : i < n) (hn : n ≤ maxLen) : wrap64 ((i : Int) + 1) = (i : Int) + 1 := IntWalk.wrap64_in _ (by unfold maxLen at hn; omega)
theorem bound_ok {ya ye j L sr ep l2 : Nat} (h : ya ≤ 2 + 3 * j ∧ ye ≤ 1 + 2 * j ∧ L ≤ j) (h1 : sr ≤ ya + 3) (h2 : ep ≤ ye + 2) (h3 : l2 ≤ L + 1) : sr ≤ 2 + 3 * (j + 1) ∧ ep ≤ 1 + 2 * (j + 1) ∧ l2 ≤ j + 1 := by omega
theorem behind_len (L : List B) (rows : B) (tn : Bool) : (behindL L rows tn).length ≤ L.length + 1 := by cases tn <;> simp [behindL]
theorem small_y {ya ye j i : Nat} {k : Nat} (h : ya ≤ 2 + 3 * j ∧ ye ≤ 1 + 2 * j ∧ k ≤ j) (hj : j < i ∧ i ≤ 15) {sr ep : Nat} (h1 : sr ≤ ya + 1) (h2 : ep = ye) : sr + 2 < 256 ∧ ep + 2 < 256 := by omega
theorem small_end {ya ye j k : Nat} (h : ya ≤ 2 + 3 * j ∧ ye ≤ 1 + 2 * j ∧ k ≤ j) (hj : j ≤ 15) : ya + 1 < 256 ∧ ye + 1 < 256 := by omega
theorem up_num {a b c : Nat} (h : b = a) (h1 : b < c) : ¬ (c : Int) ≤ (a : Int) := by omega
theorem ser_num {a b c : Nat} (h : b ≤ a + 1) (h1 : c ≤ b + 2) : c ≤ a + 3 := by omega
theorem ep_num2 {a b c : Nat} (h : b = a) (h1 : c ≤ b + 2) : c ≤ a + 2 := by omega
theorem ser_ok {a b : Nat} (h : b ≤ a + 1) : b ≤ a + 3 := by omega
theorem ep_ok {a b : Nat} (h : b = a) : b ≤ a + 2 := by omega
theorem measK {i n : Nat} (h : i < n) : n - (intOf (.int .i64 ((i : Int) + 1))).toNat < n - (intOf (.int .i64 (i : Int))).toNat := by simp [intOf]; omega
theorem wrapB (z : Int) : -9223372036854775808 ≤ IntKind.i64.wrap z ∧ IntKind.i64.wrap z ≤ 9223372036854775807 := by
  rw [IntKind.wrap_i64]; omega
set_option maxRecDepth 100000 in
set_option maxHeartbeats 16000000 in
theorem keeps_walk (A : Option Addr) (n c : Nat) (ls : List Bl) (hn : n = ls.length) (hnc : n ≤ c) (hcm : c ≤ maxLen) (w : World) (hI : BlsAt w w.heap.size A ls) :
    Calls Try.prog 6 #[.slice A n c] w fun e w' => e = .returned (.bool true) ∧ Below w.heap.size w w' := by
  have HI := Lib.hid hI
  have HN := Lib.hid hn
  have HNM : Hid (n ≤ maxLen) := Lib.hid (Nat.le_trans hnc hcm)
  clear hI hn hnc hcm
  go_enter Try.func6, Try.ntmps6
  go_wp2_with fail
  have AW : Hid (∀ W, Below w.heap.size w W → Calls Try.prog 9 #[] W fun e w' => e = .returned (.bool true) ∧ Below w.heap.size w w') := Lib.hid fun W hW => (awake_any W).mono fun e w' h => ⟨h.1, hW.trans (h.2.mono hW.size)⟩
  go_loopw [3, 23] (fun vn ix wr => ∃ (i : Nat) (z : Int), i ≤ n ∧ ix = .int .i64 i ∧ vn = .int .i64 z ∧ Hid (Below w.heap.size w wr)) (fun _ ix _ => n - (intOf ix).toNat)
  case atStart => exact ⟨0, 0, Nat.zero_le _, rfl, rfl, Lib.hid (Below.refl _ _)⟩
  case round =>
    obtain ⟨i, z, hi, rfl, rfl, HB⟩ := hrel
    by_cases hlt : i < n
    · have hil : i < ls.length := by rw [← HN.out]; exact hlt
      obtain ⟨b, off, rfl, hb, -, v, hsr, hcw⟩ := HI.out i hil
      have hc : ∀ k u, (blC v ls[i])[k]? = some u → wr.cell? ⟨b, off + i * 14 + k, none⟩ = some u := fun k u hu => (HB.out.cell (p := ⟨b, _, none⟩) hb).trans (hcw k u hu)
      obtain ⟨⟨rows, tn, cr, at_, part, keep, again, other⟩, hx⟩ : ∃ x, ls[i] = x := ⟨_, rfl⟩
      rw [hx] at hsr hc
      obtain ⟨A1, c1, rfl, hl1, hm1, hr1⟩ := hsr
      have HR := Lib.hid hr1
      dsimp only at hl1 HR
      obtain ⟨m, hm⟩ : ∃ m, m = rows.length := ⟨_, rfl⟩
      rw [← hm] at hl1 hc
      have HMM := Lib.hid hm
      have HMX : Hid (m ≤ maxLen) := Lib.hid (Nat.le_trans hl1 hm1)
      have HLT := Lib.hid hlt
      have i1 : (0 : Int) ≤ (i : Int) := by omega
      have i2 : (i : Int) < (n : Int) := by omega
      clear hcw hil hx hr1 hm hl1 hm1 hlt hi hb
      have c0_ : wr.cell? ⟨b, off + i * 14, none⟩ = some (.slice A1 m c1) := hc 0 _ rfl
      have c1_ : wr.cell? ⟨b, off + i * 14 + 1, none⟩ = some (.bool tn) := hc 1 _ rfl
      have c2_ : wr.cell? ⟨b, off + i * 14 + 2, none⟩ = some (.bool cr) := hc 2 _ rfl
      have c3_ : wr.cell? ⟨b, off + i * 14 + 3, none⟩ = some (.int .u8 (at_ : Nat)) := hc 3 _ rfl
      have c4_ : wr.cell? ⟨b, off + i * 14 + 4, none⟩ = some (.int .u8 (part : Nat)) := hc 4 _ rfl
      have c5_ : wr.cell? ⟨b, off + i * 14 + 5, none⟩ = some (.int .i64 (keep 0)) := hc 5 _ rfl
      have c6_ : wr.cell? ⟨b, off + i * 14 + 6, none⟩ = some (.int .i64 (keep 1)) := hc 6 _ rfl
      have c7_ : wr.cell? ⟨b, off + i * 14 + 7, none⟩ = some (.int .i64 (keep 2)) := hc 7 _ rfl
      have c8_ : wr.cell? ⟨b, off + i * 14 + 8, none⟩ = some (.int .i64 (keep 3)) := hc 8 _ rfl
      have c9_ : wr.cell? ⟨b, off + i * 14 + 9, none⟩ = some (.int .u8 (again : Nat)) := hc 9 _ rfl
      have c10_ : wr.cell? ⟨b, off + i * 14 + 10, none⟩ = some (.int .i64 (other 0)) := hc 10 _ rfl
      have c11_ : wr.cell? ⟨b, off + i * 14 + 11, none⟩ = some (.int .i64 (other 1)) := hc 11 _ rfl
      have c12_ : wr.cell? ⟨b, off + i * 14 + 12, none⟩ = some (.int .i64 (other 2)) := hc 12 _ rfl
      have c13_ : wr.cell? ⟨b, off + i * 14 + 13, none⟩ = some (.int .i64 (other 3)) := hc 13 _ rfl
      clear hc
      go_upto_region 5 with fail
      clear i1 i2 c0_ c1_ c2_ c3_ c4_ c5_ c6_ c7_ c8_ c9_ c10_ c11_ c12_ c13_
      obtain ⟨cs, hcs⟩ : ∃ cs : Array Value, cs = #[.slice A1 m c1, .bool tn, .bool cr, .int .u8 (at_ : Nat), .int .u8 (part : Nat), .int .i64 (keep 0), .int .i64 (keep 1), .int .i64 (keep 2), .int .i64 (keep 3), .int .u8 (again : Nat), .int .i64 (other 0), .int .i64 (other 1), .int .i64 (other 2), .int .i64 (other 3)] := ⟨_, rfl⟩
      rw [← hcs]
      have k0 : cs[0]? = some (.slice A1 m c1) := by rw [hcs]; rfl
      have q5 := Blk.new_ wr 69 cs rfl
      have HB2 := Lib.hid (HB.out.trans (((Below.refl wr.heap.size wr).alloc (Nat.le_refl _) (.cells cs 69)).mono HB.out.size))
      have d0 := Blk.at_ q5 0 k0
      clear hcs k0 q5 HB
      generalize wr.alloc (.cells cs 69) = w2 at *
      generalize wr.heap.size = g5 at *
      have HBY := Lib.hid (bytesof_any A1 m c1 rows HMM.out HMX.out w2.drew ((HR.out.below (HB2.out.drew)).more HB2.out.drew.size))
      refine wp_region_heldG [6] (fun st W => W.cell? ⟨g5, 0, none⟩ = some (.slice A1 m c1)) (by kernel_rfl) ?_
      change wpAnyG _ _ _ _ _ _ 10 _ _ (World.drew _)
      have hS : w2.drew.cell? ⟨g5, 0, none⟩ = some (.slice A1 m c1) := d0
      refine g_take (i := 0) rfl rfl (by kernel_rfl) (by kernel_rfl) (by kernel_rfl) (by kernel_rfl) (by kernel_rfl) (fun _ _ _ h => h) hS (fun L W hL hW => by go_simp; rfl) ?_
      refine g_take (i := 1) rfl rfl (by kernel_rfl) (by kernel_rfl) (by kernel_rfl) (by kernel_rfl) (by kernel_rfl) (fun _ _ _ h => h) hS (fun L W hL hW => by go_simp; rfl) ?_
      refine g_take (i := 2) rfl rfl (by kernel_rfl) (by kernel_rfl) (by kernel_rfl) (by kernel_rfl) (by kernel_rfl) (fun _ _ _ h => h) hS (fun L W hL hW => by go_simp; rfl) ?_
      refine g_take (i := 3) rfl rfl (by kernel_rfl) (by kernel_rfl) (by kernel_rfl) (by kernel_rfl) (by kernel_rfl) (fun _ _ _ h => h) hS (fun L W hL hW => by go_simp; rfl) ?_
      refine g_take (i := 4) rfl rfl (by kernel_rfl) (by kernel_rfl) (by kernel_rfl) (by kernel_rfl) (by kernel_rfl) (fun _ _ _ h => h) hS (fun L W hL hW => by go_simp; rfl) ?_
      refine g_take (i := 5) rfl rfl (by kernel_rfl) (by kernel_rfl) (by kernel_rfl) (by kernel_rfl) (by kernel_rfl) (fun _ _ _ h => h) hS (fun L W hL hW => by go_simp; rfl) ?_
      refine g_one (i := 6) rfl rfl (by kernel_rfl) fun K hK => ?_
      go_simp
      refine Calls.mono HBY.out ?_
      rintro e w3 ⟨y, rfl, rfl, -, -, -⟩
      go_simp
      refine hK _ _ hS ?_
      clear hK K
      refine g_take (i := 7) rfl rfl (by kernel_rfl) (by kernel_rfl) (by kernel_rfl) (by kernel_rfl) (by kernel_rfl) (fun _ _ _ h => h) hS (fun L W hL hW => by go_simp; rfl) ?_
      refine g_take (i := 8) rfl rfl (by kernel_rfl) (by kernel_rfl) (by kernel_rfl) (by kernel_rfl) (by kernel_rfl) (fun _ _ _ h => h) hS (fun L W hL hW => by go_simp; rfl) ?_
      refine g_take (i := 9) rfl rfl (by kernel_rfl) (by kernel_rfl) (by kernel_rfl) (by kernel_rfl) (by kernel_rfl) (fun _ _ _ h => h) hS (fun L W hL hW => by go_simp; rfl) ?_
      refine wpAnyG_done (by kernel_rfl) ?_ _
      have HB3 := Lib.hid HB2.out.drew
      clear HBY hS d0 HB2
      have HWI := Lib.hid (next_numB HLT.out HNM.out)
      go_wp2_with fail
      go_roundw
      case rel => exact ⟨i + 1, _, HLT.out, by rw [HWI.out]; rfl, rfl, HB3⟩
      case measure => rw [HWI.out]; exact measK HLT.out
    · obtain rfl : i = n := by omega
      clear hi hlt
      by_cases h15 : 15 < i
      · have u1 : (15 : Int) < (i : Int) := by omega
        go_wp2_with fail
        refine Calls.mono (AW.out _ HB.out) ?_
        rintro e w2 ⟨rfl, hb⟩
        have HBz := Lib.hid hb
        clear hb
        go_wp2_with fail
        go_ret
        exact ⟨rfl, HBz.out⟩
      have u1 : ¬ (15 : Int) < (i : Int) := by omega
      by_cases h3 : 3000 < z
      · go_wp2_with fail
        refine Calls.mono (AW.out _ HB.out) ?_
        rintro e w2 ⟨rfl, hb⟩
        have HBz := Lib.hid hb
        clear hb
        go_wp2_with fail
        go_ret
        exact ⟨rfl, HBz.out⟩
      have u3 : ¬ (3000 : Int) < z := h3
      have H15 : Hid (i ≤ 15) := Lib.hid (by omega)
      clear h15
      go_upto_region 9 with fail
      clear u1 u3 h3
      go_wp2_with fail
      refine Calls.mono (made_any3 wr) ?_
      rintro e w1 ⟨jb, F, s, rfl, hM⟩
      obtain ⟨g, hg⟩ : ∃ g, g = wr.heap.size := ⟨_, rfl⟩
      have HGW : Hid (w.heap.size ≤ g) := Lib.hid (by rw [hg]; exact HB.out.size)
      have hj := hM.j
      have hjl := hM.jlo
      have hbl := hM.below
      rw [← hg] at hj hjl hbl ⊢
      have HJ := Lib.hid (And.intro hj (And.intro hM.n (Nat.le_of_lt hjl)))
      have HB1 := Lib.hid (HB.out.trans (hbl.mono HGW.out))
      clear hM hg hj hjl hbl HB
      go_wp2_with fail
      go_loopw [7, 9, 54] (fun vj vw ix wr => ∃ (j : Nat) (F : Nat → Prop) (s : DS) (y : H) (jb : Nat) (L : List B), j ≤ i ∧ ix = .int .i64 j ∧ vj = .pointer (some ⟨jb, 0, none⟩) ∧ Hid (JAt wr g F g jb s y ∧ K s y L ∧ g ≤ jb) ∧ Hid (y.serial ≤ 2 + 3 * j ∧ y.epoch ≤ 1 + 2 * j ∧ L.length ≤ j) ∧ Hid (WZ wr F jb vw L) ∧ Hid (Below w.heap.size w wr)) (fun _ _ ix _ => i - (intOf ix).toNat)
      case atStart => exact ⟨0, F, s, _, jb, [], Nat.zero_le _, rfl, rfl, HJ, Lib.hid ⟨Nat.le_refl _, Nat.le_refl _, Nat.le_refl _⟩, Lib.hid (WZ.nil _ _ _), HB1⟩
      case round =>
        clear HJ HB1
        obtain ⟨j, F, s, y, jb, L, hj, rfl, rfl, HJ, HL, HW, HB⟩ := hrel
        by_cases hlt : j < i
        · have hil : j < ls.length := by rw [← HN.out]; exact hlt
          obtain ⟨b, off, rfl, hb, hbk, v, hsr, hcw⟩ := HI.out j hil
          have hc : ∀ k u, (blC v ls[j])[k]? = some u → wr.cell? ⟨b, off + j * 14 + k, none⟩ = some u := fun k u hu => (HB.out.cell (p := ⟨b, _, none⟩) hb).trans (hcw k u hu)
          obtain ⟨⟨rows, tn, cr, at_, part, keep, again, other⟩, hx⟩ : ∃ x, ls[j] = x := ⟨_, rfl⟩
          rw [hx] at hsr hc hbk
          obtain ⟨A1, c1, rfl, hl1, hm1, hr1⟩ := hsr
          have HBK := Lib.hid hbk
          have HR := Lib.hid hr1
          dsimp only at hl1 HR
          obtain ⟨m, hm⟩ : ∃ m, m = rows.length := ⟨_, rfl⟩
          rw [← hm] at hl1 hc
          have HMM := Lib.hid hm
          have HMX : Hid (m ≤ c1 ∧ c1 ≤ maxLen) := Lib.hid ⟨hl1, hm1⟩
          have HLT : Hid (j < i ∧ i ≤ 15) := Lib.hid ⟨hlt, H15.out⟩
          have i1 : (0 : Int) ≤ (j : Int) := by omega
          have i2 : (j : Int) < (i : Int) := by omega
          clear hcw hil hx hr1 hm hl1 hm1 hlt hj hb hbk
          have c0_ : wr.cell? ⟨b, off + j * 14, none⟩ = some (.slice A1 m c1) := hc 0 _ rfl
          have c1_ : wr.cell? ⟨b, off + j * 14 + 1, none⟩ = some (.bool tn) := hc 1 _ rfl
          have c2_ : wr.cell? ⟨b, off + j * 14 + 2, none⟩ = some (.bool cr) := hc 2 _ rfl
          have c3_ : wr.cell? ⟨b, off + j * 14 + 3, none⟩ = some (.int .u8 (at_ : Nat)) := hc 3 _ rfl
          have c4_ : wr.cell? ⟨b, off + j * 14 + 4, none⟩ = some (.int .u8 (part : Nat)) := hc 4 _ rfl
          have c5_ : wr.cell? ⟨b, off + j * 14 + 5, none⟩ = some (.int .i64 (keep 0)) := hc 5 _ rfl
          have c6_ : wr.cell? ⟨b, off + j * 14 + 6, none⟩ = some (.int .i64 (keep 1)) := hc 6 _ rfl
          have c7_ : wr.cell? ⟨b, off + j * 14 + 7, none⟩ = some (.int .i64 (keep 2)) := hc 7 _ rfl
          have c8_ : wr.cell? ⟨b, off + j * 14 + 8, none⟩ = some (.int .i64 (keep 3)) := hc 8 _ rfl
          have c9_ : wr.cell? ⟨b, off + j * 14 + 9, none⟩ = some (.int .u8 (again : Nat)) := hc 9 _ rfl
          have c10_ : wr.cell? ⟨b, off + j * 14 + 10, none⟩ = some (.int .i64 (other 0)) := hc 10 _ rfl
          have c11_ : wr.cell? ⟨b, off + j * 14 + 11, none⟩ = some (.int .i64 (other 1)) := hc 11 _ rfl
          have c12_ : wr.cell? ⟨b, off + j * 14 + 12, none⟩ = some (.int .i64 (other 2)) := hc 12 _ rfl
          have c13_ : wr.cell? ⟨b, off + j * 14 + 13, none⟩ = some (.int .i64 (other 3)) := hc 13 _ rfl
          clear hc
          go_upto_if 59 with fail
          clear i1 i2 c0_ c1_ c2_ c3_ c4_ c5_ c6_ c7_ c8_ c9_ c10_ c11_ c12_ c13_
          obtain ⟨cs, hcs⟩ : ∃ cs : Array Value, cs = #[.slice A1 m c1, .bool tn, .bool cr, .int .u8 (at_ : Nat), .int .u8 (part : Nat), .int .i64 (keep 0), .int .i64 (keep 1), .int .i64 (keep 2), .int .i64 (keep 3), .int .u8 (again : Nat), .int .i64 (other 0), .int .i64 (other 1), .int .i64 (other 2), .int .i64 (other 3)] := ⟨_, rfl⟩
          rw [← hcs]
          have KS : Hid (cs[0]? = some (.slice A1 m c1) ∧ cs[1]? = some (.bool tn) ∧ cs[2]? = some (.bool cr) ∧ cs[3]? = some (.int .u8 (at_ : Nat)) ∧ cs[4]? = some (.int .u8 (part : Nat)) ∧ cs.size = 14) := Lib.hid (by rw [hcs]; exact ⟨rfl, rfl, rfl, rfl, rfl, rfl⟩)
          have KP : Hid (cs[5]? = some (.int .i64 (keep 0)) ∧ cs[6]? = some (.int .i64 (keep 1)) ∧ cs[7]? = some (.int .i64 (keep 2)) ∧ cs[8]? = some (.int .i64 (keep 3))) := Lib.hid (by rw [hcs]; exact ⟨rfl, rfl, rfl, rfl⟩)
          have HCS : Hid (cs = (blC (.slice A1 m c1) ⟨rows, tn, cr, at_, part, keep, again, other⟩).toArray) := Lib.hid (by rw [hcs]; rfl)
          have hbn := (Below.refl wr.heap.size wr).alloc (Nat.le_refl _) (.cells cs 69)
          have q11 := Blk.new_ wr 69 cs rfl
          have n11 : ¬ F wr.heap.size := fun e => by have := (HJ.out.1.at_.lt e).2; omega
          have HQ2 : Hid (BF (wr.alloc (.cells cs 69)) F wr.heap.size 69 cs) := Lib.hid ⟨q11, n11⟩
          have HJ2 := Lib.hid (And.intro (HJ.out.1.below hbn) HJ.out.2)
          have HW2 := Lib.hid (HW.out.below hbn)
          have HB2 := Lib.hid (HB.out.trans (hbn.mono HB.out.size))
          clear hcs hbn q11 n11 HJ HW HB
          generalize wr.alloc (.cells cs 69) = w2 at *
          generalize wr.heap.size = g11 at *
          have HK := Lib.hid HJ2.out.2.1
          -- perhaps a fuse
          go_cut [68] (fun _ wx => ∃ (w3 : World) (F3 : Nat → Prop) (o : Option (Nat × Nat)), w3 = wx ∧ Hid (At w3 g F3 g (fused s o) ∧ Fr F w2 w3 ∧ ∀ k, F3 k → F k ∨ w2.heap.size ≤ k))
          case first =>
            cases cr
            · go_wp2_with fail
              go_meet
              exact ⟨_, F, none, rfl, Lib.hid ⟨by rw [fused_none HK.out.1.al.fuse]; exact HJ2.out.1.at_, Fr.refl _ _, fun _ h => .inl h⟩⟩
            · obtain ⟨k8, t1, t2, t3, hk8⟩ := at8_num HBK.out.at_
              have t4 := small_numK (i := part) (Nat.lt_trans HBK.out.part (by decide))
              have d3 := Blk.at_ HQ2.out.1 3 KS.out.2.2.2.1
              have d4 := Blk.at_ HQ2.out.1 4 KS.out.2.2.2.2.1
              have HK8 := Lib.hid hk8
              clear hk8
              go_wp2_with fail
              clear t1 t2 t3 t4 d3 d4
              refine Calls.mono (fuse_any HJ2.out.1.at_ (k8 : Nat) (part : Nat) (by have := HK8.out; omega) (by have h := HBK.out.part; have h2 : part < 256 := h; omega)) ?_
              rintro e w3 ⟨⟨v3, rfl⟩, F3, hA3, hf3, hs3⟩
              rw [fuse_on HK.out.1.al] at hA3
              have HX3 := Lib.hid (And.intro hA3 (And.intro hf3 hs3))
              clear hA3 hf3 hs3
              go_wp2_with fail
              go_meet
              exact ⟨_, F3, _, rfl, HX3⟩
          case rest =>
          obtain ⟨w3, F3, o, rfl, HX3⟩ := hcut
          have HQ3 := Lib.hid (HQ2.out.next HX3.out.2.1 HX3.out.2.2)
          have HJ3 : Hid (JAt w3 g F3 g jb (fused s o) y) := Lib.hid ⟨HX3.out.1, HJ2.out.1.bj.next HX3.out.2.1 HX3.out.2.2, HJ2.out.1.wf, HJ2.out.1.lv⟩
          have HW3 := Lib.hid (HW2.out.fr HX3.out.2.1 (fun _ h => .inl h) HX3.out.2.2)
          have HB3 := Lib.hid (HB2.out.trans (HX3.out.2.1.below HB2.out.size fun k hk => Nat.le_trans HGW.out (HJ2.out.1.at_.lt hk).1))
          have HGJ : Hid (g ≤ jb) := Lib.hid HJ2.out.2.2
          clear HX3 HQ2 HJ2 HW2 HB2
          go_wp2_with fail
          -- the epoch
          obtain ⟨ya, ye, yl⟩ := y
          have hH := jhead_any HJ3.out
          simp only [hv] at hH
          refine Calls.mono hH ?_
          clear hH
          rintro e w4 ⟨rfl, hb⟩
          have HJ4 := Lib.hid (HJ3.out.below hb)
          have HW4 := Lib.hid (HW3.out.below hb)
          have HB4 := Lib.hid (HB3.out.trans (hb.mono HB3.out.size))
          have HQ4 := Lib.hid (HQ3.out.next (Fr.of_below hb F3) (F' := F3) fun _ h => .inl h)
          clear hb HJ3 HW3 HB3 HQ3
          have hfd := head_field (ya : Int) (ye : Int) (yl : Int)
          have d1 := Blk.at_ HQ4.out.1 1 KS.out.2.1
          go_upto_if 73 with fail
          clear hfd d1
          have HRW : Hid (BRows w4 w4.heap.size A1 rows) := Lib.hid ((BRows.below HR.out HB4.out).more HB4.out.size)
          -- appended, or switched to
          go_cut [13] (fun ve wx => ∃ (w5 : World) (F5 : Nat → Prop) (cd : Nat) (s5 : DS) (y5 : H), w5 = wx ∧ ve = .int .i64 cd ∧ Hid (At w5 g F5 g s5 ∧ Blk w5 jb 48 (jcells g y5) ∧ Fr (fun k => F3 k ∨ k = jb) w4 w5 ∧ ∀ k, F5 k → F3 k ∨ w4.heap.size ≤ k) ∧ Hid (StepOut s ⟨ya, ye, yl⟩ L rows tn o (cd, s5, y5)))
          case first =>
            have d0 := Blk.at_ HQ4.out.1 0 KS.out.1
            cases tn
            · have hA := jappend_any HJ4.out A1 m c1 rows HMM.out (Nat.le_trans HMX.out.1 HMX.out.2) HRW.out
              have hlaw := append_law HK.out rows o
              unfold stepJ at hlaw
              rw [if_neg (by simp)] at hlaw
              have HA := Lib.hid hA
              have HLW := Lib.hid hlaw
              clear hA hlaw
              go_wp2_with fail
              refine Calls.mono HA.out ?_
              rintro e w5 ⟨rfl, hN⟩
              obtain ⟨F5, k1, k2, k3⟩ := hN
              have HX5 : Hid (At w5 g F5 g (appendJ (fused s o) ⟨ya, ye, yl⟩ rows).2 ∧ Blk w5 jb 48 (jcells g ⟨ya, ye, yl⟩) ∧ Fr (fun k => F3 k ∨ k = jb) w4 w5 ∧ ∀ k, F5 k → F3 k ∨ w4.heap.size ≤ k) := Lib.hid ⟨k1, HJ4.out.bj.1.fr k2 HJ4.out.bj.2, k2.more fun _ h => .inl (.inl h), k3⟩
              obtain ⟨cd, hcd⟩ : ∃ cd, cd = (appendJ (fused s o) ⟨ya, ye, yl⟩ rows).1 := ⟨_, rfl⟩
              rw [← hcd] at HLW ⊢
              clear k1 k2 k3 hcd HA d0
              go_wp2_with fail
              go_meet
              exact ⟨_, F5, cd, _, _, rfl, rfl, HX5, HLW⟩
            · have hA := jswitch_any HJ4.out A1 m c1 rows HMM.out (Nat.le_trans HMX.out.1 HMX.out.2) HRW.out
              have hlaw := switch_law HK.out rows o (by have h := HL.out.1; have := HLT.out; have h2 : ya ≤ 2 + 3 * j := h; show ya + 1 < 256; omega)
              unfold stepJ at hlaw
              rw [if_pos rfl] at hlaw
              have HA := Lib.hid hA
              have HLW := Lib.hid hlaw
              clear hA hlaw
              go_wp2_with fail
              refine Calls.mono HA.out ?_
              rintro e w5 ⟨rfl, hN⟩
              obtain ⟨F5, k1, k2, k3, k4⟩ := hN
              have HX5 := Lib.hid (And.intro k1 (And.intro k2 (And.intro k3 k4)))
              obtain ⟨⟨cd, s5, y5⟩, hcd⟩ : ∃ r, r = switchJ (fused s o) ⟨ya, ye, yl⟩ rows := ⟨_, rfl⟩
              rw [← hcd] at HLW HX5 ⊢
              clear k1 k2 k3 k4 hcd HA d0
              dsimp only
              go_wp2_with fail
              go_meet
              exact ⟨_, F5, cd, s5, y5, rfl, rfl, HX5, HLW⟩
          case rest =>
          obtain ⟨w5, F5, cd, s5, y5, rfl, rfl, HX5, HLW⟩ := hcut
          have HQ5 : Hid (BF w5 F5 g11 69 cs) := Lib.hid (HQ4.out.atJ (by decide) HJ4.out.bj.1 HX5.out.2.2.1 HX5.out.2.2.2)
          have HW5 := Lib.hid (HW4.out.fr HX5.out.2.2.1 (fun _ h => h) HX5.out.2.2.2)
          have HB5 := Lib.hid (HB4.out.trans (HX5.out.2.2.1.below HB4.out.size fun k hk => Nat.le_trans HGW.out (hk.elim (fun h => (HJ4.out.at_.lt h).1) fun h => h ▸ HGJ.out)))
          have HJ5 : Hid (BF w5 F5 jb 48 (jcells g y5)) := Lib.hid ⟨HX5.out.2.1, out_of HJ4.out.bj.1.lt HJ4.out.bj.2 HX5.out.2.2.2⟩
          have HA5 := Lib.hid HX5.out.1
          clear HX5 HQ4 HW4 HB4 HJ4 HRW
          go_wp2_with fail
          -- the fuse, off
          refine Calls.mono (fuse_any HA5.out (-1) 0 (by decide) (by decide)) ?_
          rintro e w6 ⟨⟨v6, rfl⟩, F6, hA6, hf6, hs6⟩
          have HA6 := Lib.hid hA6
          have HQ6 := Lib.hid (HQ5.out.next hf6 hs6)
          have HW6 := Lib.hid (HW5.out.fr hf6 (fun _ h => .inl h) hs6)
          have HJ6 := Lib.hid (HJ5.out.next hf6 hs6)
          have HB6 := Lib.hid (HB5.out.trans (hf6.below HB5.out.size fun k hk => Nat.le_trans HGW.out (HA5.out.lt hk).1))
          clear hA6 hf6 hs6 HA5 HQ5 HW5 HJ5 HB5
          -- with it
          obtain ⟨A2, c2, Z2, hv2, hl2, hm2, hz2, hzz⟩ := HW6.out
          subst hv2
          have hR6 : SRZ w6 (fun b => b < w.heap.size) (.slice A1 m c1) rows := SR.z ⟨A1, c1, by rw [HMM.out], by rw [← HMM.out]; exact HMX.out.1, HMX.out.2, BRows.below HR.out HB6.out⟩
          have hbe := behind_any (w := w6) (Z := Z2) (Z2 := fun b => b < w.heap.size) (nL := L.length) rfl hl2 (by have := HL.out.2.2; have := HLT.out; omega) hz2 (fun b hb => (hzz b hb).1) (fun b hb => Nat.lt_of_lt_of_le hb HB6.out.size) cs tn KS.out.1 KS.out.2.1 hR6
          have HZZ := Lib.hid hzz
          have HBE := Lib.hid hbe
          obtain ⟨nL, hnL⟩ : ∃ x, x = L.length := ⟨_, rfl⟩
          rw [← hnL] at HBE HW6 ⊢
          have HNL := Lib.hid hnL
          clear hl2 hm2 hz2 hzz hR6 hbe hnL
          go_wp2_with (refine wpList_load_row rfl 69 (.tmp 11) rfl g11 rfl 69 cs _ _ HQ6.out.1 Try.underlying69 rfl (by rw [KS.out.2.2.2.2.2]; kernel_rfl) ?_)
          refine Calls.mono HBE.out ?_
          clear HBE
          rintro e w7 ⟨A3, c3, Z3, rfl, hl3, hm3, hz3, hza, hzb, hb⟩
          have HWW : Hid (WZ w7 F6 jb (.slice A3 (behindL L rows tn).length c3) (behindL L rows tn)) := Lib.hid ⟨A3, c3, Z3, rfl, hl3, hm3, hz3, fun b hb3 => by
            refine ⟨hzb b hb3, ?_⟩
            rcases hza b hb3 with h | h | h
            · exact (HZZ.out b h).2
            · exact ⟨fun e => by have h1 := (HA6.out.lt e).1; have := HGW.out; omega, fun e => by have := HGJ.out; have := HGW.out; omega⟩
            · exact ⟨fun e => by have h1 := (HA6.out.lt e).2; omega, fun e => by have := HJ6.out.1.lt; omega⟩⟩
          have HA7 := Lib.hid (HA6.out.below hb)
          have HW7 := Lib.hid (HW6.out.below hb)
          have HJ7 := Lib.hid (HJ6.out.next (Fr.of_below hb F6) (F' := F6) fun _ h => .inl h)
          have HQ7 := Lib.hid (HQ6.out.next (Fr.of_below hb F6) (F' := F6) fun _ h => .inl h)
          have HB7 := Lib.hid (HB6.out.trans (hb.mono HB6.out.size))
          clear hl3 hm3 hz3 hza hzb hb HA6 HW6 HJ6 HQ6 HB6 HZZ
          obtain ⟨LL, hLL⟩ : ∃ x, x = behindL L rows tn := ⟨_, rfl⟩
          have HLE : Hid (LL.length ≤ L.length + 1) := Lib.hid (by rw [hLL]; exact behind_len L rows tn)
          have HLAW := Lib.hid HLW.out
          unfold StepOut at HLAW
          rw [← hLL] at HLAW HWW ⊢
          clear HLW hLL
          obtain ⟨nM, hnM⟩ : ∃ x, x = LL.length := ⟨_, rfl⟩
          rw [← hnM] at HWW ⊢
          clear hnM
          have HWI := Lib.hid (next_numK (i := j) (by have := HLT.out; omega))
          rcases HLAW.out with ⟨hc, s', o', e5, hK, he, hsr⟩ | ⟨hc, e5, ey⟩ | ⟨hc, hd, hyw, hcr⟩
          · have hc' : cd = 0 := hc
            subst hc'
            have e5' : s5 = fused s' o' := e5
            have hat : At w7 g F6 g s' := by have := HA7.out; rw [e5', fuse_off hK.1.al] at this; exact this
            have HX := Lib.hid (And.intro (⟨hat, HJ7.out, hK.1.wf, hK.1.lv⟩ : JAt w7 g F6 g jb s' y5) (And.intro hK HGJ.out))
            have HY := Lib.hid (bound_ok HL.out (ser_ok hsr) (ep_ok he) HLE.out)
            clear hc e5 hK he hsr e5' hat HLAW HA7 HW7 HJ7 HQ7
            go_wp2_with fail
            go_roundw
            case rel => exact ⟨j + 1, F6, s', y5, jb, LL, HLT.out.1, by rw [HWI.out]; rfl, rfl, HX, HY, HWW, HB7⟩
            case measure => rw [HWI.out]; exact measK HLT.out.1
          · have e5' : s5 = fused s o := e5
            have ey' : y5 = ⟨ya, ye, yl⟩ := ey
            have hat : At w7 g F6 g s := by have := HA7.out; rw [e5', fuse_off HK.out.1.al] at this; exact this
            have HX := Lib.hid (And.intro (⟨hat, by have := HJ7.out; rw [ey'] at this; exact this, HK.out.1.wf, HK.out.1.lv⟩ : JAt w7 g F6 g jb s ⟨ya, ye, yl⟩) (And.intro HK.out HGJ.out))
            have HY := Lib.hid (bound_ok (sr := ya) (ep := ye) (l2 := L.length) HL.out (Nat.le_add_right _ _) (Nat.le_add_right _ _) (Nat.le_succ _))
            have hc3 : cd = 5 ∨ cd = 31 ∨ cd = 34 := hc
            clear hc e5 ey e5' ey' hat HLAW HA7 HJ7 HQ7 HWW
            rcases hc3 with rfl | rfl | rfl
            all_goals (
              go_wp2_with fail
              go_roundw
              case rel => exact ⟨j + 1, F6, s, _, jb, L, HLT.out.1, by rw [HWI.out]; rfl, rfl, HX, HY, HW7, HB7⟩
              case measure => rw [HWI.out]; exact measK HLT.out.1)
          · have hc' : cd = 3 := hc
            subst hc'
            have hat : At w7 g F6 g s5 := by have := HA7.out; rw [fuse_dead hd] at this; exact this
            have HAT := Lib.hid hat
            have HCR := Lib.hid hcr
            have d5 := Blk.at_ HQ7.out.1 5 KP.out.1
            have d6 := Blk.at_ HQ7.out.1 6 KP.out.2.1
            have d7 := Blk.at_ HQ7.out.1 7 KP.out.2.2.1
            have d8 := Blk.at_ HQ7.out.1 8 KP.out.2.2.2
            clear hc hd hyw hcr hat HLAW HA7
            go_wp2_with fail
            clear d5 d6 d7 d8
            refine Calls.mono (crash_any HAT.out keep HBK.out.keep) ?_
            rintro e w8 ⟨⟨v8, rfl⟩, F8, hA8, hf8, hs8⟩
            have HA8 := Lib.hid hA8
            have HQ7 := Lib.hid (HQ7.out.next hf8 hs8)
            have HW8 := Lib.hid (HW7.out.fr hf8 (fun _ h => .inl h) hs8)
            have HWW8 := Lib.hid (HWW.out.fr hf8 (fun _ h => .inl h) hs8)
            have HJ8 := Lib.hid (HJ7.out.next hf8 hs8)
            have HB8 := Lib.hid (HB7.out.trans (hf8.below HB7.out.size fun k hk => Nat.le_trans HGW.out (HAT.out.lt hk).1))
            clear hA8 hf8 hs8 HAT HW7 HWW HJ7 HB7
            obtain ⟨y', L', hPC, hLL', he', hs'⟩ := HCR.out keep
            have HPC := Lib.hid hPC
            have HEY : Hid (y'.epoch = ye ∧ y'.serial ≤ ya + 1) := Lib.hid ⟨he', hs'⟩
            have hLc : L' = L ∨ L' = LL := hLL'
            clear hPC hLL' he' hs' HCR
            go_wp2_with (refine wpList_load_row rfl 69 (.tmp 11) rfl g11 rfl 69 cs _ _ HQ7.out.1 Try.underlying69 rfl (by rw [KS.out.2.2.2.2.2]; kernel_rfl) ?_)
            have hsy := small_y HL.out HLT.out HEY.out.2 HEY.out.1
            have hOP := opened_any HA8.out HPC.out hsy.1 hsy.2 _ HBK.out _ cs HCS.out
            have HOP := Lib.hid hOP
            clear hOP hsy
            refine Calls.mono HOP.out ?_
            clear HOP
            rintro e w9 ⟨kb, A9, c9, F9, s9, y9, rfl, hJ9, hK9, hy9, hf9, hs9, hkb, hl9, hm9, Z9, hz9, hzz9⟩
            have HG9 : Hid (g ≤ kb) := Lib.hid (Nat.le_trans (by have := HA8.out.lt HA8.out.fg; omega) hkb)
            have HX9 := Lib.hid (And.intro hJ9 (And.intro hK9 HG9.out))
            have HGOT : Hid (WZ w9 F9 kb (.slice A9 L'.length c9) L') := Lib.hid ⟨A9, c9, Z9, rfl, hl9, hm9, hz9, fun b hb => (hzz9 b hb).2⟩
            have HW9 := Lib.hid (HW8.out.fr hf9 (fun _ h => .inl h) hs9)
            have HWW9 := Lib.hid (HWW8.out.fr hf9 (fun _ h => .inl h) hs9)
            have HB9 := Lib.hid (HB8.out.trans (hf9.below HB8.out.size fun k hk => Nat.le_trans HGW.out (HA8.out.lt hk).1))
            have HUP := Lib.hid (up_num HEY.out.1 hy9.1)
            have HY9 := Lib.hid (And.intro (ser_num HEY.out.2 hy9.2.2) (ep_num2 HEY.out.1 hy9.2.1))
            clear hJ9 hK9 hy9 hf9 hs9 hkb hl9 hm9 hz9 hzz9 HA8 HW8 HWW8 HJ8 HB8 HQ7 HPC HEY
            obtain ⟨nK, hnK⟩ : ∃ x, x = L'.length := ⟨_, rfl⟩
            rw [← hnK] at HGOT ⊢
            clear hnK
            obtain ⟨sa, se, sl⟩ := y9
            by_cases hL : L' = L
            · subst hL
              have hS := same_wz HGOT.out HW9.out
              rw [decide_eq_true rfl] at hS
              have HS := Lib.hid hS
              clear hS hLc
              go_wp2_with fail
              refine Calls.mono HS.out ?_
              clear HS
              rintro e w10 ⟨rfl, hb⟩
              have HX10 := Lib.hid (And.intro (HX9.out.1.below hb) HX9.out.2)
              have HGOT2 := Lib.hid (HGOT.out.below hb)
              have HB10 := Lib.hid (HB9.out.trans (hb.mono HB9.out.size))
              clear hb HX9 HGOT HW9 HWW9 HB9
              go_wp2_with fail
              have hH := jhead_any HX10.out.1
              simp only [hv] at hH
              refine Calls.mono hH ?_
              clear hH
              rintro e w11 ⟨rfl, hb⟩
              have HX11 := Lib.hid (And.intro (HX10.out.1.below hb) HX10.out.2)
              have HGOT3 := Lib.hid (HGOT2.out.below hb)
              have HB11 := Lib.hid (HB10.out.trans (hb.mono HB10.out.size))
              have HY := Lib.hid (bound_ok HL.out HY9.out.1 HY9.out.2 (Nat.le_succ L'.length))
              have hfd := head_field (sa : Int) (se : Int) (sl : Int)
              have hup := HUP.out
              clear hb HX10 HGOT2 HB10
              go_wp2_with fail
              clear hfd hup
              go_roundw
              case rel => exact ⟨j + 1, F9, s9, _, kb, L', HLT.out.1, by rw [HWI.out]; rfl, rfl, HX11, HY, HGOT3, HB11⟩
              case measure => rw [HWI.out]; exact measK HLT.out.1
            · have hLM : L' = LL := hLc.resolve_left hL
              have hS := same_wz HGOT.out HW9.out
              rw [decide_eq_false hL] at hS
              have HS := Lib.hid hS
              have HLM := Lib.hid hLM
              clear hS hLc hL hLM
              go_wp2_with fail
              refine Calls.mono HS.out ?_
              clear HS
              rintro e w10 ⟨rfl, hb⟩
              have HX10 := Lib.hid (And.intro (HX9.out.1.below hb) HX9.out.2)
              have HGOT2 := Lib.hid (HGOT.out.below hb)
              have HWW10 := Lib.hid (HWW9.out.below hb)
              have HB10 := Lib.hid (HB9.out.trans (hb.mono HB9.out.size))
              clear hb HX9 HGOT HW9 HWW9 HB9
              have hS := same_wz HGOT2.out HWW10.out
              rw [decide_eq_true HLM.out] at hS
              have HS := Lib.hid hS
              clear hS
              go_wp2_with fail
              refine Calls.mono HS.out ?_
              clear HS
              rintro e w12 ⟨rfl, hb⟩
              have HX12 := Lib.hid (And.intro (HX10.out.1.below hb) HX10.out.2)
              have HGOT12 := Lib.hid (HGOT2.out.below hb)
              have HB12 := Lib.hid (HB10.out.trans (hb.mono HB10.out.size))
              clear hb HX10 HGOT2 HWW10 HB10
              go_wp2_with fail
              have hH := jhead_any HX12.out.1
              simp only [hv] at hH
              refine Calls.mono hH ?_
              clear hH
              rintro e w11 ⟨rfl, hb⟩
              have HX11 := Lib.hid (And.intro (HX12.out.1.below hb) HX12.out.2)
              have HGOT3 := Lib.hid (HGOT12.out.below hb)
              have HB11 := Lib.hid (HB12.out.trans (hb.mono HB12.out.size))
              have HY := Lib.hid (bound_ok (l2 := L'.length) HL.out HY9.out.1 HY9.out.2 (by rw [HLM.out]; exact HLE.out))
              have hfd := head_field (sa : Int) (se : Int) (sl : Int)
              have hup := HUP.out
              clear hb HX12 HGOT12 HB12
              go_wp2_with fail
              clear hfd hup
              go_roundw
              case rel => exact ⟨j + 1, F9, s9, _, kb, L', HLT.out.1, by rw [HWI.out]; rfl, rfl, HX11, HY, HGOT3, HB11⟩
              case measure => rw [HWI.out]; exact measK HLT.out.1
        · obtain rfl : j = i := by omega
          clear hj hlt
          go_wp2_with fail
          have hse := small_end HL.out H15.out
          have hO := open_end HJ.out.1.at_ HJ.out.2.1.1 hse.1 hse.2
          refine Calls.mono hO ?_
          clear hO hse
          rintro e w9 ⟨kb, A9, c9, F9, s9, y9, rfl, -, -, -, hf9, hs9, -, hl9, hm9, Z9, hz9, hzz9⟩
          have HGOT : Hid (WZ w9 F9 kb (.slice A9 L.length c9) L) := Lib.hid ⟨A9, c9, Z9, rfl, hl9, hm9, hz9, fun b hb => (hzz9 b hb).2⟩
          have HW9 := Lib.hid (HW.out.fr hf9 (fun _ h => .inl h) hs9)
          have HB9 := Lib.hid (HB.out.trans (hf9.below HB.out.size fun k hk => Nat.le_trans HGW.out (HJ.out.1.at_.lt hk).1))
          have hS := same_wz HGOT.out HW9.out
          rw [decide_eq_true rfl] at hS
          have HS := Lib.hid hS
          clear hS hf9 hs9 hl9 hm9 hz9 hzz9 HJ HW HB
          obtain ⟨nK, hnK⟩ : ∃ x, x = L.length := ⟨_, rfl⟩
          rw [← hnK] at HGOT HS ⊢
          clear hnK
          go_wp2_with fail
          refine Calls.mono HS.out ?_
          clear HS
          rintro e w10 ⟨rfl, hb⟩
          have HB10 := Lib.hid (HB9.out.trans (hb.mono HB9.out.size))
          clear hb HB9
          go_wp2_with fail
          refine Calls.mono (AW.out _ HB10.out) ?_
          rintro e w8 ⟨rfl, hb⟩
          have HBz := Lib.hid hb
          clear hb
          go_wp2_with fail
          go_ret
          exact ⟨rfl, HBz.out⟩
end Go.Proofs.Ytmkijkkddoamgaa.Jo
