/-
  The walk of the statements' own graphs: of.
-/
import Derived.Test.YtclbpohhmaojcaaGraphAwake
import Derived.Deep.DeepCutAuto
import Derived.BigQuiet
namespace Go.Proofs.Ytclbpohhmaojcaa.Gr
open Go.Proofs.Ytclbpohhmaojcaa.GrW (isV canPut)
/-- One edge more, of numbers whatever. -/
def ofE (many : Nat) (L : List (List Int)) (x : Int × Int) : List (List Int) := if x.1 % (many : Int) = x.2 % (many : Int) then L else putL L (x.1 % (many : Int)).toNat (x.2 % (many : Int)).toNat
def ofL (many : Nat) (l : List (Int × Int)) : List (List Int) := l.foldl (ofE many) (List.replicate (2 * many) [])
theorem OK.ofE {many : Nat} {L : List (List Int)} (h : OK many L) (hm : 0 < many) (x : Int × Int) : OK many (ofE many L x) := by
  unfold Gr.ofE
  split
  · exact h
  · rename_i hne
    have h1 := Int.emod_nonneg x.1 (b := (many : Int)) (by omega)
    have h2 := Int.emod_lt_of_pos x.1 (b := (many : Int)) (by omega)
    have h3 := Int.emod_nonneg x.2 (b := (many : Int)) (by omega)
    have h4 := Int.emod_lt_of_pos x.2 (b := (many : Int)) (by omega)
    exact h.put (by omega) (by omega) (by omega)
theorem OK.foldl {many : Nat} (hm : 0 < many) : ∀ (l : List (Int × Int)) {L : List (List Int)}, OK many L → OK many (l.foldl (Gr.ofE many) L)
  | [], _, h => h
  | x :: l, _, h => OK.foldl hm l (h.ofE hm x)
theorem OK.ofL {many : Nat} (hm : 0 < many) (l : List (Int × Int)) : OK many (ofL many l) := OK.foldl hm l (OK.empty many)
theorem ofL_snoc (many : Nat) (l : List (Int × Int)) (x : Int × Int) : ofL many (l ++ [x]) = ofE many (ofL many l) x := by unfold ofL; rw [List.foldl_append]; rfl
end Go.Proofs.Ytclbpohhmaojcaa.Gr
namespace Go.Proofs.Ytclbpohhmaojcaa.GrW
set_option linter.unusedVariables false
open Go Go.RowKit Go.Proofs Go.Proofs.Ytclbpohhmaojcaa Go.Proofs.Ytclbpohhmaojcaa.Wd
open Go.Proofs.Ytclbpohhmaojcaa.Gr (putL OK ofE ofL)
def manyOf (n : Nat) : Nat := 2 + n % 30
/-- What Put leaves of two numbers among the vertices. -/
theorem PutOut.among {base g n : Nat} {F : Nat → Prop} {L : List (List Int)} {x : Int × Int} {w w' : World} {e : Ending} (hn : 0 < n) (h : PutOut base F g n L (x.1 % (n : Int)) (x.2 % (n : Int)) w e w') (hG : GAt w base F g n L) : (∃ b c, e = .returned (.tuple #[.bool b, .int .i64 c])) ∧ Upd base F g n (ofE n L x) w w' := by
  have h1 := Int.emod_nonneg x.1 (b := (n : Int)) (by omega)
  have h2 := Int.emod_lt_of_pos x.1 (b := (n : Int)) (by omega)
  have h3 := Int.emod_nonneg x.2 (b := (n : Int)) (by omega)
  have h4 := Int.emod_lt_of_pos x.2 (b := (n : Int)) (by omega)
  unfold PutOut at h
  unfold ofE
  by_cases he : x.1 % (n : Int) = x.2 % (n : Int)
  · rw [if_neg (by unfold canPut; simp [he])] at h
    rw [if_pos he]
    obtain ⟨rfl, rfl⟩ := h
    exact ⟨⟨_, _, rfl⟩, Upd.refl hG⟩
  · rw [if_pos (by unfold canPut isV; simp [he, h1, h2, h3, h4])] at h
    rw [if_neg he]
    exact ⟨⟨_, _, h.1⟩, h.2⟩
def OfOut (w : World) (many : Nat) (L : List (List Int)) (e : Ending) (w' : World) : Prop :=
  ∃ g, e = .returned (.tuple #[.pointer (some ⟨g, 0, none⟩), .int .i64 many]) ∧ GAt w' w.heap.size (fun k => w.heap.size ≤ k) g many L ∧ Below w.heap.size w w'
set_option maxRecDepth 100000 in
set_option maxHeartbeats 4000000 in
theorem of_any (nb : Nat) (hnb : nb < 256) (A : Option Addr) (c : Nat) (l : List (Int × Int)) (n : Nat) (hn : n = l.length) (hnc : n ≤ c) (hcm : c ≤ maxLen) (w : World) (hI : EdgesAt w w.heap.size A l) :
    Calls Try.prog 9 #[.int .u8 nb, .slice A n c] w (OfOut w (manyOf nb) (ofL (manyOf nb) (l.take 80))) := by
  unfold maxLen at hcm
  obtain ⟨c0, hc0⟩ : ∃ c0, c0 = nb % 30 := ⟨_, rfl⟩
  obtain ⟨M, hM⟩ : ∃ M, M = manyOf nb := ⟨_, rfl⟩
  have hM2 : M = 2 + c0 := by rw [hM, hc0]; rfl
  rw [← hM]
  have t0 : (nb : Int).tmod 30 = (c0 : Int) := by rw [Int.tmod_eq_emod_of_nonneg (Int.natCast_nonneg _)]; omega
  have wa : wrap64 (c0 : Int) = c0 := IntWalk.wrap64_in _ (by omega)
  have ha : 2 + (c0 : Int) = (M : Int) := by omega
  have hM31 : M ≤ 31 := by omega
  have hM1 : 2 ≤ M := by omega
  obtain ⟨m, hm⟩ : ∃ m, m = min n 80 := ⟨_, rfl⟩
  have HMM := Lib.hid hm
  have hmc : (m : Int) ≤ (c : Int) := by omega
  have hm80 : m ≤ 80 := by omega
  have hmn : m ≤ n := by omega
  have HNL := Lib.hid hn
  have HNW := Lib.hid (new_any (M : Int) w)
  have HI := Lib.hid hI
  clear hm hc0 hM hM2 hn hI
  go_enter Try.func9, Try.ntmps9
  go_wp2_with fail
  refine Calls.mono HNW.out ?_
  intro e w1 h1
  unfold NewOut at h1
  rw [if_pos (by omega)] at h1
  obtain ⟨g, rfl, G1, B1⟩ := h1
  rw [Int.toNat_natCast] at G1
  have HG1 := Lib.hid G1
  have HB1 := Lib.hid B1
  clear HNW G1 B1 t0 wa ha
  go_upto_region 3 with fail
  go_cut [24, 25, 26] (fun v29 v30 v31 wx => v29 = .slice A m c ∧ v30 = .int .i64 (m : Int) ∧ v31 = .int .i64 0 ∧ wx = w1)
  case first =>
    have hm := HMM.out
    go_wp2_with fail
    go_meet
    have e1 : (min (n : Int) 80).toNat = m := by omega
    have e2 : max (min (n : Int) 80) 0 = (m : Int) := by omega
    exact ⟨by rw [e1], by rw [e2], rfl, rfl⟩
  case rest =>
  obtain ⟨rfl, rfl, rfl, rfl⟩ := hcut
  go_wp2_with fail
  go_loopw [26] (fun ix wr => ∃ i : Nat, i ≤ m ∧ ix = .int .i64 i ∧ Hid (GAt wr w.heap.size (fun k => w.heap.size ≤ k) g M (ofL M (l.take i)) ∧ Below w.heap.size w wr)) (fun ix _ => m - (intOf ix).toNat)
  case atStart => exact ⟨0, Nat.zero_le _, rfl, Lib.hid ⟨HG1.out, HB1.out⟩⟩
  case round =>
    obtain ⟨i, hi, rfl, HS⟩ := hrel
    by_cases hlt : i < m
    · have hil : i < l.length := by have := HNL.out; omega
      obtain ⟨b, off, rfl, hb, p1, p2⟩ := HI.out i hil
      have q1 := (HS.out.2.cell (p := ⟨b, _, none⟩) hb).trans p1
      have q2 := (HS.out.2.cell (p := ⟨b, _, none⟩) hb).trans p2
      have HX := Lib.hid (show l.take (i + 1) = l.take i ++ [l[i]] from List.take_succ_eq_append_getElem hil)
      generalize l[i] = x at *
      obtain ⟨xf, xt⟩ := x
      have i1 : (0 : Int) ≤ (i : Int) := by omega
      have i2 : (i : Int) < (m : Int) := by omega
      have HA : Hid (Below wr.heap.size wr (wr.alloc (.cells #[.int .i64 xf, .int .i64 xt] 32))) := Lib.hid ((Below.refl _ wr).alloc (Nat.le_refl _) _)
      have HZ : Hid (wr.heap.size + 1 = (wr.alloc (.cells #[.int .i64 xf, .int .i64 xt] 32)).heap.size) := Lib.hid (by simp)
      have HBX := Lib.hid (Blk.new_ wr 32 #[.int .i64 xf, .int .i64 xt] rfl)
      clear p1 p2 hb
      go_wp2_with fail
      clear q1 q2
      generalize wr.alloc (.cells #[.int .i64 xf, .int .i64 xt] 32) = wa at *
      have hS : wa.drew.cell? ⟨wr.heap.size, 0, none⟩ = some (.int .i64 xf) ∧ wa.drew.cell? ⟨wr.heap.size, 1, none⟩ = some (.int .i64 xt) := ⟨HBX.out.at_ 0 rfl, HBX.out.at_ 1 rfl⟩
      refine wp_region_heldG [4, 8] (fun cc W => (cc 4 = true ∧ cc 8 = true) ∨ (W.cell? ⟨wr.heap.size, 0, none⟩ = some (.int .i64 xf) ∧ W.cell? ⟨wr.heap.size, 1, none⟩ = some (.int .i64 xt))) (by kernel_rfl) ?_
      change wpAnyG _ _ _ _ _ _ 10 _ _ wa.drew
      refine g_take (i := 0) rfl rfl (by kernel_rfl) (by kernel_rfl) (by kernel_rfl) (by kernel_rfl) (by kernel_rfl) (fun _ _ _ h => h) (.inr hS) (fun L W hL hW => by go_simp; rfl) ?_
      refine g_take (i := 1) rfl rfl (by kernel_rfl) (by kernel_rfl) (by kernel_rfl) (by kernel_rfl) (by kernel_rfl) (fun _ _ _ h => h) (.inr hS) (fun L W hL hW => by go_simp; rfl) ?_
      refine g_take (i := 2) rfl rfl (by kernel_rfl) (by kernel_rfl) (by kernel_rfl) (by kernel_rfl) (by kernel_rfl) (fun _ _ _ h => h) (.inr hS) (fun L W hL hW => by obtain ⟨q1, q2⟩ := hW.resolve_left (by simp [came, hL 4 (by kernel_rfl)]); go_simp; rfl) ?_
      refine g_take (i := 3) rfl rfl (by kernel_rfl) (by kernel_rfl) (by kernel_rfl) (by kernel_rfl) (by kernel_rfl) (fun _ _ _ h => h) (.inr hS) (fun L W hL hW => by go_simp; rfl) ?_
      refine g_take (i := 5) rfl rfl (by kernel_rfl) (by kernel_rfl) (by kernel_rfl) (by kernel_rfl) (by kernel_rfl) (fun _ _ _ h => h) (.inr hS) (fun L W hL hW => by go_simp; rfl) ?_
      refine g_take (i := 6) rfl rfl (by kernel_rfl) (by kernel_rfl) (by kernel_rfl) (by kernel_rfl) (by kernel_rfl) (fun _ _ _ h => h) (.inr hS) (fun L W hL hW => by obtain ⟨q1, q2⟩ := hW.resolve_left (by simp [came, hL 8 (by kernel_rfl)]); go_simp; rfl) ?_
      refine g_take (i := 7) rfl rfl (by kernel_rfl) (by kernel_rfl) (by kernel_rfl) (by kernel_rfl) (by kernel_rfl) (fun _ _ _ h => h) (.inr hS) (fun L W hL hW => by go_simp; rfl) ?_
      refine g_one (i := 4) rfl rfl (by kernel_rfl) fun K hK => ?_
      go_simp
      refine Calls.mono (among_any xf M (by omega) (by omega) wa.drew) ?_
      rintro e w' ⟨rfl, rfl⟩
      refine hK _ _ (.inr hS) ?_
      clear hK K
      refine g_one (i := 8) rfl rfl (by kernel_rfl) fun K hK => ?_
      go_simp
      refine Calls.mono (among_any xt M (by omega) (by omega) wa.drew) ?_
      rintro e w' ⟨rfl, rfl⟩
      refine hK _ _ (.inr hS) ?_
      clear hK K
      refine g_one (i := 9) rfl rfl (by kernel_rfl) fun K hK => ?_
      go_simp
      have hBa : Below wr.heap.size wr wa.drew := HA.out.drew
      have hGa := HS.out.1.below hBa
      refine Calls.mono (put_all wa.drew _ g M _ _ hGa ((OK.ofL (by omega) _).rises (by omega)) (Nat.le_trans HS.out.2.size hBa.size) _ _) ?_
      intro e w2 hP
      obtain ⟨⟨pb, pc, rfl⟩, hU⟩ := PutOut.among (x := (xf, xt)) (by omega) hP hGa
      have HN2 : Hid (GAt w2 w.heap.size (fun k => w.heap.size ≤ k) g M (ofL M (l.take (i + 1))) ∧ Below w.heap.size w w2) := Lib.hid (by
        rw [HX.out, Gr.ofL_snoc]
        obtain ⟨g1, g2⟩ := hU.low (B := w.heap.size) (fun _ h => h) (Nat.le_trans HS.out.2.size hBa.size)
        exact ⟨g1, HS.out.2.trans ((hBa.mono HS.out.2.size).trans g2)⟩)
      clear hP hU hBa hGa
      refine hK _ _ (.inl (by simp [came])) ?_
      clear hK K
      refine wpAnyG_done (by kernel_rfl) ?_ _
      clear hS HS HBX HA HZ HX
      go_simp
      go_wp2_with fail
      go_roundw
      case rel => exact ⟨i + 1, by omega, by go_num, HN2⟩
      case measure => simp [intOf]; omega
    · obtain rfl : i = m := by omega
      have HF : Hid (OfOut w M (ofL M (l.take 80)) (.returned (.tuple #[.pointer (some ⟨g, 0, none⟩), .int .i64 M])) wr) := Lib.hid (by
        have e : l.take i = l.take 80 := by
          have h1 := HMM.out
          have h2 := HNL.out
          by_cases h80 : n ≤ 80
          · rw [List.take_of_length_le (by omega), List.take_of_length_le (by omega)]
          · rw [show i = 80 by omega]
        rw [← e]
        exact ⟨g, rfl, HS.out.1, HS.out.2⟩)
      clear HS
      go_wp2_with fail
      go_ret2
      exact HF.out
end Go.Proofs.Ytclbpohhmaojcaa.GrW
