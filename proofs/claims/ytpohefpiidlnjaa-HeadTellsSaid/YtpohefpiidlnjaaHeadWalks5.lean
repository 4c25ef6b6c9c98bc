/-
  The walk of Pick.
-/
import Derived.Test.YtpohefpiidlnjaaHeadWalks4
namespace Go.Proofs.Ytpohefpiidlnjaa.HdW
set_option linter.unusedVariables false
open Go Go.RowKit Go.Shelf Go.Proofs Go.Proofs.Ytpohefpiidlnjaa Go.Proofs.Ytpohefpiidlnjaa.Wd Go.Proofs.Ytpohefpiidlnjaa.Dk Go.Proofs.Ytpohefpiidlnjaa.Hd

/-- The best one, one more seen. -/
def pk (i : Nat) (a : H) (r : H × Bool) : H := if r.2 = true ∧ r.1.serial % 2 = i ∧ a.serial < r.1.serial then r.1 else a
def best (zero one : List UInt8) : Nat → H
  | 0 => none_
  | 1 => pk 0 none_ (readR zero)
  | _ => pk 1 (pk 0 none_ (readR zero)) (readR one)
theorem readR_wf (b : List UInt8) : Wf (readR b).1 := by
  unfold readR
  cases h : Hd.read b with
  | none => exact ⟨by decide, by decide, by decide⟩
  | some x => exact (read_some h).2.2
theorem best_pick (zero one : List UInt8) : best zero one 2 = Hd.pick zero one := by
  show pk 1 (pk 0 none_ (readR zero)) (readR one) = _
  have e : pk 0 none_ (readR zero) = (match Hd.read zero with | some h => if h.serial % 2 = 0 then h else none_ | none => none_) := by
    unfold pk readR
    cases h : Hd.read zero with
    | none => simp
    | some x =>
      have hr := (read_some h).1
      have : 0 < x.serial := by simp [right] at hr; exact hr.1
      simp [none_, this]
  rw [e]
  unfold pk readR Hd.pick
  cases h : Hd.read one with
  | none => simp; rfl
  | some x => simp; rfl
/-- One of two rows. -/
theorem index_two (a b : Value) (W : World) : (Instr.index 93 (.agg #[a, b]) (.int .i64 0)).run Try.prog W = .ok a W ∧ (Instr.index 93 (.agg #[a, b]) (.int .i64 1)).run Try.prog W = .ok b W := by
  have hz : (Try.prog.info? 25).map (fun i => i.size) = some 1 := by kernel_rfl
  obtain ⟨i, hi, hs⟩ := Option.map_eq_some_iff.1 hz
  constructor <;> simp [Instr.index, run_underlying Try.underlying93, asIntOf, go_sem, sizeOf, typeInfo, hi, hs]
theorem best_wf (zero one : List UInt8) : ∀ i, Wf (best zero one i) := by
  have h0 : Wf none_ := ⟨by decide, by decide, by decide⟩
  have hp : ∀ i a r, Wf a → Wf r.1 → Wf (pk i a r) := fun i a r ha hr => by unfold pk; split <;> assumption
  intro i
  match i with
  | 0 => exact h0
  | 1 => exact hp _ _ _ h0 (readR_wf _)
  | _ + 2 => exact hp _ _ _ (hp _ _ _ h0 (readR_wf _)) (readR_wf _)
set_option maxRecDepth 100000 in
set_option maxHeartbeats 1000000 in
theorem pick_any (A0 A1 : Option Addr) (c0 c1 n0 n1 : Nat) (zero one : List UInt8) (hn0 : n0 = zero.length) (hn1 : n1 = one.length) (hc0 : n0 ≤ c0) (hc1 : n1 ≤ c1) (hcm0 : c0 ≤ maxLen) (hcm1 : c1 ≤ maxLen) (w : World) (hJ0 : Bytes w w.heap.size A0 zero) (hJ1 : Bytes w w.heap.size A1 one) :
    Calls Try.prog 24 #[.slice A0 n0 c0, .slice A1 n1 c1] w fun e w' => e = .returned (.tuple #[.agg (hv (Hd.pick zero one)), .bool (decide (0 < (Hd.pick zero one).serial))]) ∧ Below w.heap.size w w' := by
  have hI0 : Hid (∀ W, Below w.heap.size w W → Bytes W W.heap.size A0 zero) := Lib.hid fun W hW => hJ0.grow hW
  have hI1 : Hid (∀ W, Below w.heap.size w W → Bytes W W.heap.size A1 one) := Lib.hid fun W hW => hJ1.grow hW
  clear hJ0 hJ1
  have HN0 := Lib.hid hn0
  have HN1 := Lib.hid hn1
  clear hn0 hn1
  have q4 := (Blk.new_ w 24 #[.int .u64 0, .int .u64 0, .int .u8 0] rfl).alloc (.cells #[.int .u64 0, .int .u64 0, .int .u8 0] 24)
  have q6 := Blk.new_ (w.alloc (.cells #[.int .u64 0, .int .u64 0, .int .u8 0] 24)) 24 #[.int .u64 0, .int .u64 0, .int .u8 0] (n := w.heap.size + 1) (by simp)
  have hB := ((Below.refl w.heap.size w).alloc (Nat.le_refl _) (.cells #[.int .u64 0, .int .u64 0, .int .u8 0] 24)).alloc (by simp) (.cells #[.int .u64 0, .int .u64 0, .int .u8 0] 24)
  rw [← best_pick]
  go_enter Try.func24, Try.ntmps24
  go_wp2_with fail
  generalize (w.alloc (.cells #[.int .u64 0, .int .u64 0, .int .u8 0] 24)).alloc (.cells #[.int .u64 0, .int .u64 0, .int .u8 0] 24) = w2 at *
  go_loopw [14] (fun ix wr => ∃ (i : Nat) (h : H), (i = 0 ∧ ix = .int .i64 0 ∨ i = 1 ∧ ix = .int .i64 1 ∨ i = 2 ∧ ix = .int .i64 2) ∧ h = best zero one i ∧ Blk wr (w.heap.size + 1) 24 (hv h) ∧ Blk wr w.heap.size 24 #[.int .u64 0, .int .u64 0, .int .u8 0] ∧ Below w.heap.size w wr) (fun ix _ => 2 - (intOf ix).toNat)
  case atStart => exact ⟨0, none_, .inl ⟨rfl, rfl⟩, rfl, q6, q4, hB⟩
  case round =>
    clear q4 q6 hB
    obtain ⟨i, h, hi, hh, hq6, hq4, hB⟩ := hrel
    rcases hi with ⟨rfl, rfl⟩ | ⟨rfl, rfl⟩ | ⟨rfl, rfl⟩
    · obtain ⟨⟨⟨s, e, l⟩, ok⟩, hRz⟩ : ∃ r, readR zero = r := ⟨_, rfl⟩
      have hwf := readR_wf zero
      have HST : Hid (best zero one 1 = pk 0 h (⟨s, e, l⟩, ok)) := Lib.hid (by rw [← hRz, hh]; rfl)
      rw [hRz] at hwf
      obtain ⟨ws, we, wl⟩ : s < 18446744073709551616 ∧ e < 18446744073709551616 ∧ l < 256 := ⟨hwf.serial, hwf.epoch, hwf.live⟩
      obtain ⟨h0, h1, h2⟩ := h
      have hix := fun W => (index_two (.slice A0 n0 c0) (.slice A1 n1 c1) W).1
      have hRd := fun W hW => read_any A0 c0 zero n0 HN0.out hc0 hcm0 W (hI0.out W hW)
      rw [hRz] at hRd
      simp only [hv] at hRd hq6
      clear hRz hh hwf
      go_wp2_with fail
      refine Calls.mono (hRd _ hB) ?_
      rintro en y1 ⟨rfl, hb⟩
      have r6 := hq6.below hb hq6.lt
      have r4 := hq4.below hb hq4.lt
      have hB2 := hB.trans (hb.mono hB.size)
      clear hB hb hRd hq6 hq4
      have hq9 := Blk.new_ y1 24 #[.int .u64 (s : Nat), .int .u64 (e : Nat), .int .u8 (l : Nat)] rfl
      have q6 := r6.alloc (.cells #[.int .u64 (s : Nat), .int .u64 (e : Nat), .int .u8 (l : Nat)] 24)
      have q4 := r4.alloc (.cells #[.int .u64 (s : Nat), .int .u64 (e : Nat), .int .u8 (l : Nat)] 24)
      have hB := hB2.alloc hB2.size (.cells #[.int .u64 (s : Nat), .int .u64 (e : Nat), .int .u8 (l : Nat)] 24)
      have ne6 : ¬ y1.heap.size = w.heap.size + 1 := (Nat.ne_of_lt r6.lt).symm
      have ne4 : w.heap.size ≠ w.heap.size + 1 := by omega
      clear r6 r4 hB2
      go_upto_region 6 with fail
      generalize y1.alloc (.cells #[.int .u64 (s : Nat), .int .u64 (e : Nat), .int .u8 (l : Nat)] 24) = V at *
      cases ok
      · have HS : Hid (best zero one 1 = ⟨h0, h1, h2⟩) := Lib.hid (by rw [HST.out]; unfold pk; simp)
        clear hq9 HST
        go_wp2_with fail
        go_roundw
        case rel => exact ⟨1, ⟨h0, h1, h2⟩, (.inr (.inl ⟨rfl, by go_num⟩)), HS.out.symm, q6, q4, hB⟩
        case measure => simp [intOf]
      · have f0 := Blk.at_ hq9 0 (v := .int .u64 (s : Nat)) rfl
        have f1 := Blk.at_ hq9 1 (v := .int .u64 (e : Nat)) rfl
        have f2 := Blk.at_ hq9 2 (v := .int .u8 (l : Nat)) rfl
        go_wp2_with fail
        refine Calls.mono (slot_any s e l ws V) ?_
        rintro en y2 ⟨rfl, hb⟩
        have r6 := q6.below hb q6.lt
        have r4 := q4.below hb q4.lt
        have r9 := hq9.below hb hq9.lt
        have hB2 := hB.trans (hb.mono hB.size)
        clear q6 q4 hq9 hB hb f0 f1 f2
        have f0 := Blk.at_ r9 0 (v := .int .u64 (s : Nat)) rfl
        have f1 := Blk.at_ r9 1 (v := .int .u64 (e : Nat)) rfl
        have f2 := Blk.at_ r9 2 (v := .int .u8 (l : Nat)) rfl
        have z0 := Blk.at_ r6 0 (v := .int .u64 (h0 : Nat)) rfl
        have z1 := Blk.at_ r6 1 (v := .int .u64 (h1 : Nat)) rfl
        have z2 := Blk.at_ r6 2 (v := .int .u8 (h2 : Nat)) rfl
        have zf := r6.frozen
        by_cases hp : s % 2 = 0
        · by_cases hlt : h0 < s
          · have HS : Hid (best zero one 1 = ⟨s, e, l⟩) := Lib.hid (by rw [HST.out]; unfold pk; rw [if_pos ⟨rfl, hp, hlt⟩])
            have u1 : (h0 : Int) < (s : Int) := by omega
            rw [hp]
            clear HST hp hlt
            go_wp2_with fail
            have q6 := ((r6.set_ 0 (.int .u64 (s : Nat))).set_ 1 (.int .u64 (e : Nat))).set_ 2 (.int .u8 (l : Nat))
            have q4 := ((r4.farN (o := 0) ne4 (.int .u64 (s : Nat))).farN (o := 1) ne4 (.int .u64 (e : Nat))).farN (o := 2) ne4 (.int .u8 (l : Nat))
            have hB4 := ((hB2.setCell (p := ⟨w.heap.size + 1, 0, none⟩) (Nat.le_succ _) (.int .u64 (s : Nat))).setCell (p := ⟨w.heap.size + 1, 1, none⟩) (Nat.le_succ _) (.int .u64 (e : Nat))).setCell (p := ⟨w.heap.size + 1, 2, none⟩) (Nat.le_succ _) (.int .u8 (l : Nat))
            go_roundw
            case rel => exact ⟨1, ⟨s, e, l⟩, (.inr (.inl ⟨rfl, by go_num⟩)), HS.out.symm, q6, q4, hB4⟩
            case measure => simp [intOf]
          · have HS : Hid (best zero one 1 = ⟨h0, h1, h2⟩) := Lib.hid (by rw [HST.out]; unfold pk; rw [if_neg (fun h => hlt h.2.2)])
            have u1 : ¬ (h0 : Int) < (s : Int) := by omega
            rw [hp]
            clear HST hp hlt
            go_wp2_with fail
            go_roundw
            case rel => exact ⟨1, ⟨h0, h1, h2⟩, (.inr (.inl ⟨rfl, by go_num⟩)), HS.out.symm, r6, r4, hB2⟩
            case measure => simp [intOf]
        · have HS : Hid (best zero one 1 = ⟨h0, h1, h2⟩) := Lib.hid (by rw [HST.out]; unfold pk; rw [if_neg (fun h => hp h.2.1)])
          obtain ⟨m, hm⟩ : ∃ m, m = s % 2 := ⟨_, rfl⟩
          rw [← hm] at hp ⊢
          have u1 : ¬ (m : Int) = 0 := by omega
          clear HST hp hm
          go_wp2_with fail
          go_roundw
          case rel => exact ⟨1, ⟨h0, h1, h2⟩, (.inr (.inl ⟨rfl, by go_num⟩)), HS.out.symm, r6, r4, hB2⟩
          case measure => simp [intOf]
    · obtain ⟨⟨⟨s, e, l⟩, ok⟩, hRz⟩ : ∃ r, readR one = r := ⟨_, rfl⟩
      have hwf := readR_wf one
      have HST : Hid (best zero one 2 = pk 1 h (⟨s, e, l⟩, ok)) := Lib.hid (by rw [← hRz, hh]; rfl)
      rw [hRz] at hwf
      obtain ⟨ws, we, wl⟩ : s < 18446744073709551616 ∧ e < 18446744073709551616 ∧ l < 256 := ⟨hwf.serial, hwf.epoch, hwf.live⟩
      obtain ⟨h0, h1, h2⟩ := h
      have hix := fun W => (index_two (.slice A0 n0 c0) (.slice A1 n1 c1) W).2
      have hRd := fun W hW => read_any A1 c1 one n1 HN1.out hc1 hcm1 W (hI1.out W hW)
      rw [hRz] at hRd
      simp only [hv] at hRd hq6
      clear hRz hh hwf
      go_wp2_with fail
      refine Calls.mono (hRd _ hB) ?_
      rintro en y1 ⟨rfl, hb⟩
      have r6 := hq6.below hb hq6.lt
      have r4 := hq4.below hb hq4.lt
      have hB2 := hB.trans (hb.mono hB.size)
      clear hB hb hRd hq6 hq4
      have hq9 := Blk.new_ y1 24 #[.int .u64 (s : Nat), .int .u64 (e : Nat), .int .u8 (l : Nat)] rfl
      have q6 := r6.alloc (.cells #[.int .u64 (s : Nat), .int .u64 (e : Nat), .int .u8 (l : Nat)] 24)
      have q4 := r4.alloc (.cells #[.int .u64 (s : Nat), .int .u64 (e : Nat), .int .u8 (l : Nat)] 24)
      have hB := hB2.alloc hB2.size (.cells #[.int .u64 (s : Nat), .int .u64 (e : Nat), .int .u8 (l : Nat)] 24)
      have ne6 : ¬ y1.heap.size = w.heap.size + 1 := (Nat.ne_of_lt r6.lt).symm
      have ne4 : w.heap.size ≠ w.heap.size + 1 := by omega
      clear r6 r4 hB2
      go_upto_region 6 with fail
      generalize y1.alloc (.cells #[.int .u64 (s : Nat), .int .u64 (e : Nat), .int .u8 (l : Nat)] 24) = V at *
      cases ok
      · have HS : Hid (best zero one 2 = ⟨h0, h1, h2⟩) := Lib.hid (by rw [HST.out]; unfold pk; simp)
        clear hq9 HST
        go_wp2_with fail
        go_roundw
        case rel => exact ⟨2, ⟨h0, h1, h2⟩, (.inr (.inr ⟨rfl, by go_num⟩)), HS.out.symm, q6, q4, hB⟩
        case measure => simp [intOf]
      · have f0 := Blk.at_ hq9 0 (v := .int .u64 (s : Nat)) rfl
        have f1 := Blk.at_ hq9 1 (v := .int .u64 (e : Nat)) rfl
        have f2 := Blk.at_ hq9 2 (v := .int .u8 (l : Nat)) rfl
        go_wp2_with fail
        refine Calls.mono (slot_any s e l ws V) ?_
        rintro en y2 ⟨rfl, hb⟩
        have r6 := q6.below hb q6.lt
        have r4 := q4.below hb q4.lt
        have r9 := hq9.below hb hq9.lt
        have hB2 := hB.trans (hb.mono hB.size)
        clear q6 q4 hq9 hB hb f0 f1 f2
        have f0 := Blk.at_ r9 0 (v := .int .u64 (s : Nat)) rfl
        have f1 := Blk.at_ r9 1 (v := .int .u64 (e : Nat)) rfl
        have f2 := Blk.at_ r9 2 (v := .int .u8 (l : Nat)) rfl
        have z0 := Blk.at_ r6 0 (v := .int .u64 (h0 : Nat)) rfl
        have z1 := Blk.at_ r6 1 (v := .int .u64 (h1 : Nat)) rfl
        have z2 := Blk.at_ r6 2 (v := .int .u8 (h2 : Nat)) rfl
        have zf := r6.frozen
        by_cases hp : s % 2 = 1
        · by_cases hlt : h0 < s
          · have HS : Hid (best zero one 2 = ⟨s, e, l⟩) := Lib.hid (by rw [HST.out]; unfold pk; rw [if_pos ⟨rfl, hp, hlt⟩])
            have u1 : (h0 : Int) < (s : Int) := by omega
            rw [hp]
            clear HST hp hlt
            go_wp2_with fail
            have q6 := ((r6.set_ 0 (.int .u64 (s : Nat))).set_ 1 (.int .u64 (e : Nat))).set_ 2 (.int .u8 (l : Nat))
            have q4 := ((r4.farN (o := 0) ne4 (.int .u64 (s : Nat))).farN (o := 1) ne4 (.int .u64 (e : Nat))).farN (o := 2) ne4 (.int .u8 (l : Nat))
            have hB4 := ((hB2.setCell (p := ⟨w.heap.size + 1, 0, none⟩) (Nat.le_succ _) (.int .u64 (s : Nat))).setCell (p := ⟨w.heap.size + 1, 1, none⟩) (Nat.le_succ _) (.int .u64 (e : Nat))).setCell (p := ⟨w.heap.size + 1, 2, none⟩) (Nat.le_succ _) (.int .u8 (l : Nat))
            go_roundw
            case rel => exact ⟨2, ⟨s, e, l⟩, (.inr (.inr ⟨rfl, by go_num⟩)), HS.out.symm, q6, q4, hB4⟩
            case measure => simp [intOf]
          · have HS : Hid (best zero one 2 = ⟨h0, h1, h2⟩) := Lib.hid (by rw [HST.out]; unfold pk; rw [if_neg (fun h => hlt h.2.2)])
            have u1 : ¬ (h0 : Int) < (s : Int) := by omega
            rw [hp]
            clear HST hp hlt
            go_wp2_with fail
            go_roundw
            case rel => exact ⟨2, ⟨h0, h1, h2⟩, (.inr (.inr ⟨rfl, by go_num⟩)), HS.out.symm, r6, r4, hB2⟩
            case measure => simp [intOf]
        · have HS : Hid (best zero one 2 = ⟨h0, h1, h2⟩) := Lib.hid (by rw [HST.out]; unfold pk; rw [if_neg (fun h => hp h.2.1)])
          obtain ⟨m, hm⟩ : ∃ m, m = s % 2 := ⟨_, rfl⟩
          rw [← hm] at hp ⊢
          have u1 : ¬ (m : Int) = 1 := by omega
          clear HST hp hm
          go_wp2_with fail
          go_roundw
          case rel => exact ⟨2, ⟨h0, h1, h2⟩, (.inr (.inr ⟨rfl, by go_num⟩)), HS.out.symm, r6, r4, hB2⟩
          case measure => simp [intOf]
    · obtain ⟨⟨h0, h1, h2⟩, HH⟩ : ∃ x, best zero one 2 = x := ⟨_, rfl⟩
      have hh := hh.trans HH
      subst hh
      simp only [hv] at hq6
      have HH := Lib.hid HH
      have q6 := hq6.drew
      have q4 := hq4.drew
      have hB2 := hB.drew
      have ne6 : w.heap.size + 1 ≠ w.heap.size := by omega
      go_upto_region 9 with fail
      refine wp_region_heldG [] (fun _ W => W.cell? ⟨w.heap.size + 1, 0, none⟩ = some (.int .u64 (h0 : Nat)) ∧ W.cell? ⟨w.heap.size + 1, 1, none⟩ = some (.int .u64 (h1 : Nat)) ∧ W.cell? ⟨w.heap.size + 1, 2, none⟩ = some (.int .u8 (h2 : Nat))) (by kernel_rfl) ?_
      change wpAnyG _ _ _ _ _ _ 6 _ _ (World.drew _)
      generalize wr.drew = V at *
      clear hq6 hq4 hB
      have hS : V.cell? ⟨w.heap.size + 1, 0, none⟩ = some (.int .u64 (h0 : Nat)) ∧ V.cell? ⟨w.heap.size + 1, 1, none⟩ = some (.int .u64 (h1 : Nat)) ∧ V.cell? ⟨w.heap.size + 1, 2, none⟩ = some (.int .u8 (h2 : Nat)) := ⟨Blk.at_ q6 0 rfl, Blk.at_ q6 1 rfl, Blk.at_ q6 2 rfl⟩
      have HS2 : Hid ((((V.setCell ⟨w.heap.size, 0, none⟩ (.int .u64 (h0 : Nat))).setCell ⟨w.heap.size, 1, none⟩ (.int .u64 (h1 : Nat))).setCell ⟨w.heap.size, 2, none⟩ (.int .u8 (h2 : Nat))).cell? ⟨w.heap.size + 1, 0, none⟩ = some (.int .u64 (h0 : Nat)) ∧ (((V.setCell ⟨w.heap.size, 0, none⟩ (.int .u64 (h0 : Nat))).setCell ⟨w.heap.size, 1, none⟩ (.int .u64 (h1 : Nat))).setCell ⟨w.heap.size, 2, none⟩ (.int .u8 (h2 : Nat))).cell? ⟨w.heap.size + 1, 1, none⟩ = some (.int .u64 (h1 : Nat)) ∧ (((V.setCell ⟨w.heap.size, 0, none⟩ (.int .u64 (h0 : Nat))).setCell ⟨w.heap.size, 1, none⟩ (.int .u64 (h1 : Nat))).setCell ⟨w.heap.size, 2, none⟩ (.int .u8 (h2 : Nat))).cell? ⟨w.heap.size + 1, 2, none⟩ = some (.int .u8 (h2 : Nat))) :=
        Lib.hid ⟨Blk.at_ (((q6.farN (o := 0) ne6 (.int .u64 (h0 : Nat))).farN (o := 1) ne6 (.int .u64 (h1 : Nat))).farN (o := 2) ne6 (.int .u8 (h2 : Nat))) 0 rfl, Blk.at_ (((q6.farN (o := 0) ne6 (.int .u64 (h0 : Nat))).farN (o := 1) ne6 (.int .u64 (h1 : Nat))).farN (o := 2) ne6 (.int .u8 (h2 : Nat))) 1 rfl, Blk.at_ (((q6.farN (o := 0) ne6 (.int .u64 (h0 : Nat))).farN (o := 1) ne6 (.int .u64 (h1 : Nat))).farN (o := 2) ne6 (.int .u8 (h2 : Nat))) 2 rfl⟩
      have HQ4 := Lib.hid q4
      clear q4 q6
      -- take0 take1 take2 take3 one4 take5 done
      refine g_take (i := 0) rfl rfl (by kernel_rfl) (by kernel_rfl) (by kernel_rfl) (by kernel_rfl) (by kernel_rfl) (fun _ _ _ h => h) hS (fun L W hL hW => by have q1 := hW.1; have q2 := hW.2.1; have q3 := hW.2.2; go_simp; rfl) ?_
      refine g_take (i := 1) rfl rfl (by kernel_rfl) (by kernel_rfl) (by kernel_rfl) (by kernel_rfl) (by kernel_rfl) (fun _ _ _ h => h) hS (fun L W hL hW => by go_simp; rfl) ?_
      refine g_take (i := 2) rfl rfl (by kernel_rfl) (by kernel_rfl) (by kernel_rfl) (by kernel_rfl) (by kernel_rfl) (fun _ _ _ h => h) hS (fun L W hL hW => by have q1 := hW.1; have q2 := hW.2.1; have q3 := hW.2.2; go_simp; rfl) ?_
      refine g_take (i := 3) rfl rfl (by kernel_rfl) (by kernel_rfl) (by kernel_rfl) (by kernel_rfl) (by kernel_rfl) (fun _ _ _ h => h) hS (fun L W hL hW => by go_simp; rfl) ?_
      refine g_one (i := 4) rfl rfl (by kernel_rfl) fun K hK => ?_
      have z0 := Blk.at_ HQ4.out 0 (v := .int .u64 0) rfl
      have z1 := Blk.at_ HQ4.out 1 (v := .int .u64 0) rfl
      have z2 := Blk.at_ HQ4.out 2 (v := .int .u8 0) rfl
      have zf := HQ4.out.frozen
      go_simp
      clear z0 z1 z2 zf
      refine hK _ _ HS2.out ?_
      clear hK K
      refine g_take (i := 5) rfl rfl (by kernel_rfl) (by kernel_rfl) (by kernel_rfl) (by kernel_rfl) (by kernel_rfl) (fun _ _ _ h => h) HS2.out (fun L W hL hW => by go_simp; rfl) ?_
      refine wpAnyG_done (by kernel_rfl) ?_ _
      go_simp
      have hB3 := ((hB2.setCell (p := ⟨w.heap.size, 0, none⟩) (Nat.le_refl _) (.int .u64 (h0 : Nat))).setCell (p := ⟨w.heap.size, 1, none⟩) (Nat.le_refl _) (.int .u64 (h1 : Nat))).setCell (p := ⟨w.heap.size, 2, none⟩) (Nat.le_refl _) (.int .u8 (h2 : Nat))
      have q4 := ((HQ4.out.set_ 0 (.int .u64 (h0 : Nat))).set_ 1 (.int .u64 (h1 : Nat))).set_ 2 (.int .u8 (h2 : Nat))
      go_wp2_with fail
      refine bodyPost_ret (results_cell_row2 rfl _ _ w.heap.size 24 #[.int .u64 (h0 : Nat), .int .u64 (h1 : Nat), .int .u8 (h2 : Nat)] (0, 0) _ rfl q4.out Try.underlying24 rfl (by kernel_rfl)) rfl ?_
      rw [HH.out]
      exact ⟨rfl, hB3⟩
end Go.Proofs.Ytpohefpiidlnjaa.HdW
