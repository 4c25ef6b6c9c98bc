/-
  The walk of Crash.
-/
import Derived.Test.YtpohefpiidlnjaaDiskWalks6
namespace Go.Proofs.Ytpohefpiidlnjaa.Dk
set_option linter.unusedVariables false
open Go Go.RowKit Go.Shelf Go.Proofs Go.Proofs.Ytpohefpiidlnjaa Go.Proofs.Ytpohefpiidlnjaa.Wd

theorem wp_copy_run {P : Program} (w : World) {o : Oper} {a : Act} {K : Act → World → Prop} {Q : Exit → Act → World → Prop} (d s : Operand) (t t' : TypeId)
    (ho : o.op = .call { callee := .builtin .copy, args := #[d, s], argTypes := #[t, t'] }) (v u : Value) (hd : a.eval d = v) (hs : a.eval s = u) {v' : Value} {w' : World}
    (hr : (Builtin.copy_ #[t, t'] o.type #[v, u]).run P w = .ok v' w') (h : K (a.put o.dst v') w') : o.wp P a w K Q := by
  unfold Oper.wp execOp
  simp only [ho, resolve, invoke, builtin, Sem.run_bind, Sem.run_pure, Result.andThen_ok, List.map_toArray, List.map_cons, List.map_nil, hd, hs, hr]
  exact h
theorem Next.drew {w w' : World} {base : Nat} {F : Nat → Prop} {g : Nat} {s : DS} (h : Next w base F g s w') : Next w base F g s w'.drew := by
  obtain ⟨F', h1, h2, h3⟩ := h
  exact ⟨F', h1.drew, h2.drew, h3⟩
def segN (keep : Nat → Int) (i : Nat) (s : DS) : Nat := s.safe i + min (keep i).toNat ((s.all i).length - s.safe i)
def cutD (k n : Nat) (s : DS) : DS := { s with all := upd s.all k ((s.all k).take n), safe := upd s.safe k n }
def csegs (keep : Nat → Int) (s : DS) : Nat → DS
  | 0 => s
  | n + 1 => cutD n (segN keep n (csegs keep s n)) (csegs keep s n)
def slotM (keep : Nat → Int) (i : Nat) : Nat := min (keep (2 + i)).toNat 32
def copyD (i m : Nat) (s : DS) : DS := { s with sl := upd s.sl i ((s.lo i).take m ++ (s.sl i).drop ((s.lo i).take m).length) }
def unwr (i : Nat) (s : DS) : DS := { s with wr := upd s.wr i false }
def cslots (keep : Nat → Int) (s : DS) : Nat → DS
  | 0 => s
  | n + 1 => unwr n (if (cslots keep s n).wr n then copyD n (slotM keep n) (cslots keep s n) else cslots keep s n)
def revive (s : DS) : DS := { { s with dead := false } with fuse := none }
/-- What a crash makes of a disk. -/
def crashD (keep : Nat → Int) (s : DS) : DS := revive (cslots keep (csegs keep s 2) 2)
theorem cutD_ok {s : DS} (h : Ok s) {k n : Nat} (hk : k < 2) (hn : n ≤ (s.all k).length) : Ok (cutD k n s) := by
  unfold cutD
  refine ⟨h.cap, ?_, fun i hi => ?_, h.sl, h.lo, h.fuse⟩
  · show (upd s.all k ((s.all k).take n) 0).length + (upd s.all k ((s.all k).take n) 1).length ≤ s.cap
    have := h.room
    rcases (by omega : k = 0 ∨ k = 1) with rfl | rfl
    · rw [upd_eq, upd_ne (by decide), List.length_take]; omega
    · rw [upd_eq, upd_ne (by decide), List.length_take]; omega
  · show upd s.safe k n i ≤ (upd s.all k ((s.all k).take n) i).length
    by_cases e : i = k
    · subst e; rw [upd_eq, upd_eq, List.length_take]; omega
    · rw [upd_ne e, upd_ne e]; exact h.safe i hi
theorem segN_le {s : DS} (h : Ok s) (keep : Nat → Int) {i : Nat} (hi : i < 2) : segN keep i s ≤ (s.all i).length := by unfold segN; have := h.safe i hi; omega
theorem copyD_ok {s : DS} (h : Ok s) {i m : Nat} (hi : i < 2) : Ok (copyD i m s) := by
  refine ⟨h.cap, h.room, h.safe, fun j hj => ?_, h.lo, h.fuse⟩
  show (upd s.sl i _ j).length = 32
  by_cases e : j = i
  · subst e; rw [upd_eq, List.length_append, List.length_drop, h.sl j hj, List.length_take, h.lo j hj]; omega
  · rw [upd_ne e]; exact h.sl j hj

section
variable {w : World} {base : Nat} {F : Nat → Prop} {g : Nat} {s : DS}
set_option maxRecDepth 100000 in
set_option maxHeartbeats 2000000 in
theorem crash_any (h : At w base F g s) (keep : Nat → Int) (hkp : ∀ i, i < 4 → -9223372036854775808 ≤ keep i ∧ keep i ≤ 9223372036854775807) :
    Calls Try.prog 21 #[.pointer (some ⟨g, 0, none⟩), .agg #[.int .i64 (keep 0), .int .i64 (keep 1), .int .i64 (keep 2), .int .i64 (keep 3)]] w fun e w' => (∃ v, e = .returned v) ∧ Next w base F g (crashD keep s) w' := by
  have HKP := Lib.hid hkp
  have HA0 := Lib.hid h
  have hzk := Blk.new_ w 61 #[.int .i64 (keep 0), .int .i64 (keep 1), .int .i64 (keep 2), .int .i64 (keep 3)] rfl
  have hB := (Below.refl w.heap.size w).alloc (Nat.le_refl _) (.cells #[.int .i64 (keep 0), .int .i64 (keep 1), .int .i64 (keep 2), .int .i64 (keep 3)] 61)
  have hF : ¬ F w.heap.size := fun e => by have := (h.lt e).2; omega
  clear hkp
  have h1 := h.below hB
  have hlt1 : w.heap.size < (w.alloc (.cells #[.int .i64 (keep 0), .int .i64 (keep 1), .int .i64 (keep 2), .int .i64 (keep 3)] 61)).heap.size := by simp
  have c0 : (w.alloc (.cells #[.int .i64 (keep 0), .int .i64 (keep 1), .int .i64 (keep 2), .int .i64 (keep 3)] 61)).cell? ⟨g, 0, none⟩ = some (.bool true) := by
    obtain ⟨cs, v, vf, R, fb, h1⟩ := h1
    exact h1.cell h1.cells.c0
  clear h
  go_enter Try.func21, Try.ntmps21
  go_upto_region 1 with fail
  generalize w.alloc (.cells #[.int .i64 (keep 0), .int .i64 (keep 1), .int .i64 (keep 2), .int .i64 (keep 3)] 61) = w1 at *
  go_wp2_with fail
  have HN1 := Lib.hid (Next.refl h1)
  clear h1 c0
  go_loopw [18] (fun ix wr => ∃ i : Nat, i ≤ 2 ∧ ix = .int .i64 i ∧ Next w1 base F g (csegs keep s i) wr) (fun ix _ => 2 - (intOf ix).toNat)
  case atStart => exact ⟨0, by omega, rfl, HN1.out⟩
  case round =>
    obtain ⟨i, hi, rfl, F', hA, hfr, hF'⟩ := hrel
    have hzr := hzk.fr hfr hF
    have hbF : ¬ F' w.heap.size := fun e => by rcases hF' _ e with e | e; exact hF e; omega
    by_cases hlt : i < 2
    · have HCS : Hid (csegs keep s (i + 1) = cutD i (segN keep i (csegs keep s i)) (csegs keep s i)) := Lib.hid rfl
      generalize csegs keep s i = s2 at *
      obtain ⟨cs, v, vf, R, fb, h⟩ := hA
      have hsn := segN_le h.ok keep hlt
      obtain ⟨A0, k0, e0, l0, m0, b0⟩ := h.form hlt
      have cg := h.cell (h.cells.seg i hlt)
      have csf := h.cell (h.cells.safe i hlt)
      have hrow := h.row i hlt
      rw [e0] at cg hrow
      have hck : wr.cell? ⟨w.heap.size, i, none⟩ = some (.int .i64 (keep i)) := by
        rcases (by omega : i = 0 ∨ i = 1) with rfl | rfl
        · exact Blk.at_ hzr 0 rfl
        · exact Blk.at_ hzr 1 rfl
      have hle : (s2.all i).length ≤ 1048576 := by have := h.ok.room; have := h.ok.cap; rcases (by omega : i = 0 ∨ i = 1) with rfl | rfl <;> omega
      have hsf := h.ok.safe i hlt
      have HSEG : Hid (segN keep i s2 = s2.safe i + min (keep i).toNat ((s2.all i).length - s2.safe i)) := Lib.hid rfl
      obtain ⟨n, hn⟩ : ∃ n, n = segN keep i s2 := ⟨_, rfl⟩
      rw [← hn] at hsn HCS HSEG
      have HNX : Hid (Next w1 base F g (cutD i n s2) ((wr.setCell ⟨g, 2 + i * 2, none⟩ (.slice A0 n n)).setCell ⟨g, 2 + i * 2 + 1, none⟩ (.int .i64 n))) := Lib.hid (by
        refine Next.trans (s' := s2) hfr hF' ⟨F', ⟨_, _, _, _, _, h.row_set2 hlt (hrow.cut hsn) n (cutD_ok h.ok hlt hsn)⟩, Fr.setCell (p := ⟨g, 2 + i * 2 + 1, none⟩) (Fr.setCell (p := ⟨g, 2 + i * 2, none⟩) (Fr.refl _ _) (.inl h.fg) _) (.inl h.fg) _, fun _ h => .inl h⟩)
      have fz1 := h.blk.frozen (2 + i * 2)
      have fz2 := (h.blk.set_ (2 + i * 2) (.slice A0 n n)).frozen (2 + i * 2 + 1)
      have csf2 : (wr.setCell ⟨g, 2 + i * 2, none⟩ (.slice A0 n n)).cell? ⟨g, 2 + i * 2 + 1, none⟩ = some (.int .i64 (s2.safe i)) := (World.cell?_setCell_other _ ⟨g, 2 + i * 2, none⟩ ⟨g, 2 + i * 2 + 1, none⟩ _ (by intro e; injection e with e1 e2; omega)).trans csf
      have hA0n : A0 = none → n = 0 := fun e => by
        subst e
        rcases hrow with ⟨he, hnil⟩ | ⟨r, cap, cur, he, _⟩
        · have : (s2.all i).length = 0 := by rw [hnil]; rfl
          omega
        · cases he
      have HNA := Lib.hid hA0n
      have HCUT : Hid (n ≤ k0) := Lib.hid (by omega)
      clear h hrow e0 m0 b0 hfr hA0n
      have HSN := Lib.hid hsn
      generalize (s2.all i).length = ln at *
      generalize s2.safe i = sf at *
      obtain ⟨d, hd⟩ : ∃ d, d = ln - sf := ⟨_, rfl⟩
      have y1 : IntKind.i64.wrap ((ln : Int) - sf) = (d : Int) := by rw [show (ln : Int) - sf = d by omega]; exact IntWalk.i64_in _ (by omega)
      rw [← hd] at HSEG
      have hkb := HKP.out i (by omega)
      have j1 : (0 : Int) ≤ (i : Int) := by omega
      have j2 : (i : Int) < 2 := by omega
      have j4 : (i : Int) < 4 := by omega
      have HHN := Lib.hid hn
      clear hn
      go_upto_region 6 with fail
      go_cut [6] (fun v wx => v = .int .i64 (n : Int) ∧ wx = wr.drew)
      case first =>
        have hS : wr.drew.cell? ⟨w.heap.size, i, none⟩ = some (.int .i64 (keep i)) ∧ wr.drew.cell? ⟨g, 2 + i * 2, none⟩ = some (.slice A0 ln k0) ∧ wr.drew.cell? ⟨g, 2 + i * 2 + 1, none⟩ = some (.int .i64 sf) := ⟨hck, cg, csf⟩
        by_cases hk0 : keep i < 0
        · have u1 : ¬ (d : Int) < 0 := by omega
          have hnn : n = sf := by have := HSEG.out; omega
          have y2 : IntKind.i64.wrap ((sf : Int) + 0) = (n : Int) := by rw [hnn]; exact IntWalk.i64_in _ (by omega)
          have y3 : IntKind.i64.wrap (sf : Int) = (n : Int) := by rw [hnn]; exact IntWalk.i64_in _ (by omega)
          clear hnn hd l0 hsf hkb hsn
          refine wp_region_heldG [] (fun _ W => W.cell? ⟨w.heap.size, i, none⟩ = some (.int .i64 (keep i)) ∧ W.cell? ⟨g, 2 + i * 2, none⟩ = some (.slice A0 ln k0) ∧ W.cell? ⟨g, 2 + i * 2 + 1, none⟩ = some (.int .i64 sf)) (by kernel_rfl) ?_
          change wpAnyG _ _ _ _ _ _ 21 _ _ (World.drew _)
          -- take0 take1 take2 take3 take4 take5 take6 take8 take9 take10 take11 take12 take13 take14 take15 take16 take17 one7 one18 take19 take20 done
          refine g_take (i := 0) rfl rfl (by kernel_rfl) (by kernel_rfl) (by kernel_rfl) (by kernel_rfl) (by kernel_rfl) (fun _ _ _ h => h) hS (fun L W hL hW => by go_simp; rfl) ?_
          refine g_take (i := 1) rfl rfl (by kernel_rfl) (by kernel_rfl) (by kernel_rfl) (by kernel_rfl) (by kernel_rfl) (fun _ _ _ h => h) hS (fun L W hL hW => by go_simp; rfl) ?_
          refine g_take (i := 2) rfl rfl (by kernel_rfl) (by kernel_rfl) (by kernel_rfl) (by kernel_rfl) (by kernel_rfl) (fun _ _ _ h => h) hS (fun L W hL hW => by go_simp; rfl) ?_
          refine g_take (i := 3) rfl rfl (by kernel_rfl) (by kernel_rfl) (by kernel_rfl) (by kernel_rfl) (by kernel_rfl) (fun _ _ _ h => h) hS (fun L W hL hW => by have q1 := hW.1; have q2 := hW.2.1; have q3 := hW.2.2; go_simp; rfl) ?_
          refine g_take (i := 4) rfl rfl (by kernel_rfl) (by kernel_rfl) (by kernel_rfl) (by kernel_rfl) (by kernel_rfl) (fun _ _ _ h => h) hS (fun L W hL hW => by go_simp; rfl) ?_
          refine g_take (i := 5) rfl rfl (by kernel_rfl) (by kernel_rfl) (by kernel_rfl) (by kernel_rfl) (by kernel_rfl) (fun _ _ _ h => h) hS (fun L W hL hW => by go_simp; rfl) ?_
          refine g_take (i := 6) rfl rfl (by kernel_rfl) (by kernel_rfl) (by kernel_rfl) (by kernel_rfl) (by kernel_rfl) (fun _ _ _ h => h) hS (fun L W hL hW => by have q1 := hW.1; have q2 := hW.2.1; have q3 := hW.2.2; go_simp; rfl) ?_
          refine g_take (i := 8) rfl rfl (by kernel_rfl) (by kernel_rfl) (by kernel_rfl) (by kernel_rfl) (by kernel_rfl) (fun _ _ _ h => h) hS (fun L W hL hW => by go_simp; rfl) ?_
          refine g_take (i := 9) rfl rfl (by kernel_rfl) (by kernel_rfl) (by kernel_rfl) (by kernel_rfl) (by kernel_rfl) (fun _ _ _ h => h) hS (fun L W hL hW => by go_simp; rfl) ?_
          refine g_take (i := 10) rfl rfl (by kernel_rfl) (by kernel_rfl) (by kernel_rfl) (by kernel_rfl) (by kernel_rfl) (fun _ _ _ h => h) hS (fun L W hL hW => by go_simp; rfl) ?_
          refine g_take (i := 11) rfl rfl (by kernel_rfl) (by kernel_rfl) (by kernel_rfl) (by kernel_rfl) (by kernel_rfl) (fun _ _ _ h => h) hS (fun L W hL hW => by have q1 := hW.1; have q2 := hW.2.1; have q3 := hW.2.2; go_simp; rfl) ?_
          refine g_take (i := 12) rfl rfl (by kernel_rfl) (by kernel_rfl) (by kernel_rfl) (by kernel_rfl) (by kernel_rfl) (fun _ _ _ h => h) hS (fun L W hL hW => by go_simp; rfl) ?_
          refine g_take (i := 13) rfl rfl (by kernel_rfl) (by kernel_rfl) (by kernel_rfl) (by kernel_rfl) (by kernel_rfl) (fun _ _ _ h => h) hS (fun L W hL hW => by go_simp; rfl) ?_
          refine g_take (i := 14) rfl rfl (by kernel_rfl) (by kernel_rfl) (by kernel_rfl) (by kernel_rfl) (by kernel_rfl) (fun _ _ _ h => h) hS (fun L W hL hW => by go_simp; rfl) ?_
          refine g_take (i := 15) rfl rfl (by kernel_rfl) (by kernel_rfl) (by kernel_rfl) (by kernel_rfl) (by kernel_rfl) (fun _ _ _ h => h) hS (fun L W hL hW => by go_simp; rfl) ?_
          refine g_take (i := 16) rfl rfl (by kernel_rfl) (by kernel_rfl) (by kernel_rfl) (by kernel_rfl) (by kernel_rfl) (fun _ _ _ h => h) hS (fun L W hL hW => by have q1 := hW.1; have q2 := hW.2.1; have q3 := hW.2.2; go_simp; rfl) ?_
          refine g_take (i := 17) rfl rfl (by kernel_rfl) (by kernel_rfl) (by kernel_rfl) (by kernel_rfl) (by kernel_rfl) (fun _ _ _ h => h) hS (fun L W hL hW => by go_simp; rfl) ?_
          refine g_one (i := 7) rfl rfl (by kernel_rfl) fun K hK => ?_
          go_simp
          refine hK _ _ hS ?_
          clear hK K
          refine g_one (i := 18) rfl rfl (by kernel_rfl) fun K hK => ?_
          go_simp
          refine hK _ _ hS ?_
          clear hK K
          refine g_take (i := 19) rfl rfl (by kernel_rfl) (by kernel_rfl) (by kernel_rfl) (by kernel_rfl) (by kernel_rfl) (fun _ _ _ h => h) hS (fun L W hL hW => by go_simp; rfl) ?_
          refine g_take (i := 20) rfl rfl (by kernel_rfl) (by kernel_rfl) (by kernel_rfl) (by kernel_rfl) (by kernel_rfl) (fun _ _ _ h => h) hS (fun L W hL hW => by go_simp; rfl) ?_
          refine wpAnyG_done (by kernel_rfl) ?_ _
          go_wp2_with fail
          go_meet
          exact ⟨rfl, rfl⟩
        · obtain ⟨kp, hkp⟩ : ∃ kp : Nat, keep i = kp := ⟨(keep i).toNat, by omega⟩
          have HT : Hid ((keep i).toNat = kp) := Lib.hid (by rw [hkp]; rfl)
          rw [hkp] at hS hkb
          have u0' : ¬ (kp : Int) < 0 := by omega
          by_cases hdk : d < kp
          · have hnn : n = sf + d := by have := HSEG.out; have := HT.out; omega
            have y2 : IntKind.i64.wrap ((sf : Int) + d) = (n : Int) := by rw [show (sf : Int) + d = n by omega]; exact IntWalk.i64_in _ (by omega)
            clear hnn hd l0 hsf hkb hsn hk0 hkp
            refine wp_region_heldG [] (fun _ W => W.cell? ⟨w.heap.size, i, none⟩ = some (.int .i64 (kp : Int)) ∧ W.cell? ⟨g, 2 + i * 2, none⟩ = some (.slice A0 ln k0) ∧ W.cell? ⟨g, 2 + i * 2 + 1, none⟩ = some (.int .i64 sf)) (by kernel_rfl) ?_
            change wpAnyG _ _ _ _ _ _ 21 _ _ (World.drew _)
            -- take0 take1 take2 take3 take4 take5 take6 take8 take9 take10 take11 take12 take13 take14 take15 take16 take17 one7 one18 take19 take20 done
            refine g_take (i := 0) rfl rfl (by kernel_rfl) (by kernel_rfl) (by kernel_rfl) (by kernel_rfl) (by kernel_rfl) (fun _ _ _ h => h) hS (fun L W hL hW => by go_simp; rfl) ?_
            refine g_take (i := 1) rfl rfl (by kernel_rfl) (by kernel_rfl) (by kernel_rfl) (by kernel_rfl) (by kernel_rfl) (fun _ _ _ h => h) hS (fun L W hL hW => by go_simp; rfl) ?_
            refine g_take (i := 2) rfl rfl (by kernel_rfl) (by kernel_rfl) (by kernel_rfl) (by kernel_rfl) (by kernel_rfl) (fun _ _ _ h => h) hS (fun L W hL hW => by go_simp; rfl) ?_
            refine g_take (i := 3) rfl rfl (by kernel_rfl) (by kernel_rfl) (by kernel_rfl) (by kernel_rfl) (by kernel_rfl) (fun _ _ _ h => h) hS (fun L W hL hW => by have q1 := hW.1; have q2 := hW.2.1; have q3 := hW.2.2; go_simp; rfl) ?_
            refine g_take (i := 4) rfl rfl (by kernel_rfl) (by kernel_rfl) (by kernel_rfl) (by kernel_rfl) (by kernel_rfl) (fun _ _ _ h => h) hS (fun L W hL hW => by go_simp; rfl) ?_
            refine g_take (i := 5) rfl rfl (by kernel_rfl) (by kernel_rfl) (by kernel_rfl) (by kernel_rfl) (by kernel_rfl) (fun _ _ _ h => h) hS (fun L W hL hW => by go_simp; rfl) ?_
            refine g_take (i := 6) rfl rfl (by kernel_rfl) (by kernel_rfl) (by kernel_rfl) (by kernel_rfl) (by kernel_rfl) (fun _ _ _ h => h) hS (fun L W hL hW => by have q1 := hW.1; have q2 := hW.2.1; have q3 := hW.2.2; go_simp; rfl) ?_
            refine g_take (i := 8) rfl rfl (by kernel_rfl) (by kernel_rfl) (by kernel_rfl) (by kernel_rfl) (by kernel_rfl) (fun _ _ _ h => h) hS (fun L W hL hW => by go_simp; rfl) ?_
            refine g_take (i := 9) rfl rfl (by kernel_rfl) (by kernel_rfl) (by kernel_rfl) (by kernel_rfl) (by kernel_rfl) (fun _ _ _ h => h) hS (fun L W hL hW => by go_simp; rfl) ?_
            refine g_take (i := 10) rfl rfl (by kernel_rfl) (by kernel_rfl) (by kernel_rfl) (by kernel_rfl) (by kernel_rfl) (fun _ _ _ h => h) hS (fun L W hL hW => by go_simp; rfl) ?_
            refine g_take (i := 11) rfl rfl (by kernel_rfl) (by kernel_rfl) (by kernel_rfl) (by kernel_rfl) (by kernel_rfl) (fun _ _ _ h => h) hS (fun L W hL hW => by have q1 := hW.1; have q2 := hW.2.1; have q3 := hW.2.2; go_simp; rfl) ?_
            refine g_take (i := 12) rfl rfl (by kernel_rfl) (by kernel_rfl) (by kernel_rfl) (by kernel_rfl) (by kernel_rfl) (fun _ _ _ h => h) hS (fun L W hL hW => by go_simp; rfl) ?_
            refine g_take (i := 13) rfl rfl (by kernel_rfl) (by kernel_rfl) (by kernel_rfl) (by kernel_rfl) (by kernel_rfl) (fun _ _ _ h => h) hS (fun L W hL hW => by go_simp; rfl) ?_
            refine g_take (i := 14) rfl rfl (by kernel_rfl) (by kernel_rfl) (by kernel_rfl) (by kernel_rfl) (by kernel_rfl) (fun _ _ _ h => h) hS (fun L W hL hW => by go_simp; rfl) ?_
            refine g_take (i := 15) rfl rfl (by kernel_rfl) (by kernel_rfl) (by kernel_rfl) (by kernel_rfl) (by kernel_rfl) (fun _ _ _ h => h) hS (fun L W hL hW => by go_simp; rfl) ?_
            refine g_take (i := 16) rfl rfl (by kernel_rfl) (by kernel_rfl) (by kernel_rfl) (by kernel_rfl) (by kernel_rfl) (fun _ _ _ h => h) hS (fun L W hL hW => by have q1 := hW.1; have q2 := hW.2.1; have q3 := hW.2.2; go_simp; rfl) ?_
            refine g_take (i := 17) rfl rfl (by kernel_rfl) (by kernel_rfl) (by kernel_rfl) (by kernel_rfl) (by kernel_rfl) (fun _ _ _ h => h) hS (fun L W hL hW => by go_simp; rfl) ?_
            refine g_one (i := 7) rfl rfl (by kernel_rfl) fun K hK => ?_
            go_simp
            refine hK _ _ hS ?_
            clear hK K
            refine g_one (i := 18) rfl rfl (by kernel_rfl) fun K hK => ?_
            go_simp
            refine hK _ _ hS ?_
            clear hK K
            refine g_take (i := 19) rfl rfl (by kernel_rfl) (by kernel_rfl) (by kernel_rfl) (by kernel_rfl) (by kernel_rfl) (fun _ _ _ h => h) hS (fun L W hL hW => by go_simp; rfl) ?_
            refine g_take (i := 20) rfl rfl (by kernel_rfl) (by kernel_rfl) (by kernel_rfl) (by kernel_rfl) (by kernel_rfl) (fun _ _ _ h => h) hS (fun L W hL hW => by go_simp; rfl) ?_
            refine wpAnyG_done (by kernel_rfl) ?_ _
            go_wp2_with fail
            go_meet
            exact ⟨rfl, rfl⟩
          · have hnn : n = sf + kp := by have := HSEG.out; have := HT.out; omega
            have y2 : IntKind.i64.wrap ((sf : Int) + kp) = (n : Int) := by rw [show (sf : Int) + kp = n by omega]; exact IntWalk.i64_in _ (by omega)
            clear hnn hd l0 hsf hkb hsn hk0 hkp
            refine wp_region_heldG [] (fun _ W => W.cell? ⟨w.heap.size, i, none⟩ = some (.int .i64 (kp : Int)) ∧ W.cell? ⟨g, 2 + i * 2, none⟩ = some (.slice A0 ln k0) ∧ W.cell? ⟨g, 2 + i * 2 + 1, none⟩ = some (.int .i64 sf)) (by kernel_rfl) ?_
            change wpAnyG _ _ _ _ _ _ 21 _ _ (World.drew _)
            -- take0 take1 take2 take3 take4 take5 take6 take8 take9 take10 take11 take12 take13 take14 take15 take16 take17 one7 one18 take19 take20 done
            refine g_take (i := 0) rfl rfl (by kernel_rfl) (by kernel_rfl) (by kernel_rfl) (by kernel_rfl) (by kernel_rfl) (fun _ _ _ h => h) hS (fun L W hL hW => by go_simp; rfl) ?_
            refine g_take (i := 1) rfl rfl (by kernel_rfl) (by kernel_rfl) (by kernel_rfl) (by kernel_rfl) (by kernel_rfl) (fun _ _ _ h => h) hS (fun L W hL hW => by go_simp; rfl) ?_
            refine g_take (i := 2) rfl rfl (by kernel_rfl) (by kernel_rfl) (by kernel_rfl) (by kernel_rfl) (by kernel_rfl) (fun _ _ _ h => h) hS (fun L W hL hW => by go_simp; rfl) ?_
            refine g_take (i := 3) rfl rfl (by kernel_rfl) (by kernel_rfl) (by kernel_rfl) (by kernel_rfl) (by kernel_rfl) (fun _ _ _ h => h) hS (fun L W hL hW => by have q1 := hW.1; have q2 := hW.2.1; have q3 := hW.2.2; go_simp; rfl) ?_
            refine g_take (i := 4) rfl rfl (by kernel_rfl) (by kernel_rfl) (by kernel_rfl) (by kernel_rfl) (by kernel_rfl) (fun _ _ _ h => h) hS (fun L W hL hW => by go_simp; rfl) ?_
            refine g_take (i := 5) rfl rfl (by kernel_rfl) (by kernel_rfl) (by kernel_rfl) (by kernel_rfl) (by kernel_rfl) (fun _ _ _ h => h) hS (fun L W hL hW => by go_simp; rfl) ?_
            refine g_take (i := 6) rfl rfl (by kernel_rfl) (by kernel_rfl) (by kernel_rfl) (by kernel_rfl) (by kernel_rfl) (fun _ _ _ h => h) hS (fun L W hL hW => by have q1 := hW.1; have q2 := hW.2.1; have q3 := hW.2.2; go_simp; rfl) ?_
            refine g_take (i := 8) rfl rfl (by kernel_rfl) (by kernel_rfl) (by kernel_rfl) (by kernel_rfl) (by kernel_rfl) (fun _ _ _ h => h) hS (fun L W hL hW => by go_simp; rfl) ?_
            refine g_take (i := 9) rfl rfl (by kernel_rfl) (by kernel_rfl) (by kernel_rfl) (by kernel_rfl) (by kernel_rfl) (fun _ _ _ h => h) hS (fun L W hL hW => by go_simp; rfl) ?_
            refine g_take (i := 10) rfl rfl (by kernel_rfl) (by kernel_rfl) (by kernel_rfl) (by kernel_rfl) (by kernel_rfl) (fun _ _ _ h => h) hS (fun L W hL hW => by go_simp; rfl) ?_
            refine g_take (i := 11) rfl rfl (by kernel_rfl) (by kernel_rfl) (by kernel_rfl) (by kernel_rfl) (by kernel_rfl) (fun _ _ _ h => h) hS (fun L W hL hW => by have q1 := hW.1; have q2 := hW.2.1; have q3 := hW.2.2; go_simp; rfl) ?_
            refine g_take (i := 12) rfl rfl (by kernel_rfl) (by kernel_rfl) (by kernel_rfl) (by kernel_rfl) (by kernel_rfl) (fun _ _ _ h => h) hS (fun L W hL hW => by go_simp; rfl) ?_
            refine g_take (i := 13) rfl rfl (by kernel_rfl) (by kernel_rfl) (by kernel_rfl) (by kernel_rfl) (by kernel_rfl) (fun _ _ _ h => h) hS (fun L W hL hW => by go_simp; rfl) ?_
            refine g_take (i := 14) rfl rfl (by kernel_rfl) (by kernel_rfl) (by kernel_rfl) (by kernel_rfl) (by kernel_rfl) (fun _ _ _ h => h) hS (fun L W hL hW => by go_simp; rfl) ?_
            refine g_take (i := 15) rfl rfl (by kernel_rfl) (by kernel_rfl) (by kernel_rfl) (by kernel_rfl) (by kernel_rfl) (fun _ _ _ h => h) hS (fun L W hL hW => by go_simp; rfl) ?_
            refine g_take (i := 16) rfl rfl (by kernel_rfl) (by kernel_rfl) (by kernel_rfl) (by kernel_rfl) (by kernel_rfl) (fun _ _ _ h => h) hS (fun L W hL hW => by have q1 := hW.1; have q2 := hW.2.1; have q3 := hW.2.2; go_simp; rfl) ?_
            refine g_take (i := 17) rfl rfl (by kernel_rfl) (by kernel_rfl) (by kernel_rfl) (by kernel_rfl) (by kernel_rfl) (fun _ _ _ h => h) hS (fun L W hL hW => by go_simp; rfl) ?_
            refine g_one (i := 7) rfl rfl (by kernel_rfl) fun K hK => ?_
            go_simp
            refine hK _ _ hS ?_
            clear hK K
            refine g_one (i := 18) rfl rfl (by kernel_rfl) fun K hK => ?_
            go_simp
            refine hK _ _ hS ?_
            clear hK K
            refine g_take (i := 19) rfl rfl (by kernel_rfl) (by kernel_rfl) (by kernel_rfl) (by kernel_rfl) (by kernel_rfl) (fun _ _ _ h => h) hS (fun L W hL hW => by go_simp; rfl) ?_
            refine g_take (i := 20) rfl rfl (by kernel_rfl) (by kernel_rfl) (by kernel_rfl) (by kernel_rfl) (by kernel_rfl) (fun _ _ _ h => h) hS (fun L W hL hW => by go_simp; rfl) ?_
            refine wpAnyG_done (by kernel_rfl) ?_ _
            go_wp2_with fail
            go_meet
            exact ⟨rfl, rfl⟩
      case rest =>
      obtain ⟨rfl, rfl⟩ := hcut
      have i0 : (0 : Int) ≤ (n : Int) := by omega
      have i1 : (n : Int) ≤ (k0 : Int) := by have := HCUT.out; omega
      clear y1 hd l0 hsf hkb hsn hck
      go_wp2_with fail
      go_roundw
      case rel => exact ⟨i + 1, by omega, by go_num, by rw [HCS.out]; exact HNX.out.drew⟩
      case measure => simp [intOf]; omega
    · obtain rfl : i = 2 := by omega
      have HN2 : Hid (Next w1 base F g (csegs keep s 2) wr) := Lib.hid ⟨F', hA, hfr, hF'⟩
      have HDEF : Hid (crashD keep s = revive (cslots keep (csegs keep s 2) 2)) := Lib.hid rfl
      generalize csegs keep s 2 = s1 at *
      clear hA hfr hF' hzr hbF hlt
      go_wp2_with fail
      go_loopw [61] (fun ix wq => ∃ i : Nat, i ≤ 2 ∧ ix = .int .i64 i ∧ Next w1 base F g (cslots keep s1 i) wq) (fun ix _ => 2 - (intOf ix).toNat)
      case atStart => exact ⟨0, by omega, rfl, HN2.out⟩
      case round =>
        obtain ⟨i, hi, rfl, F', hA, hfr, hF'⟩ := hrel
        have hzr := hzk.fr hfr hF
        have hbF : ¬ F' w.heap.size := fun e => by rcases hF' _ e with e | e; exact hF e; omega
        obtain ⟨cs, v, vf, R, fb, h⟩ := hA
        by_cases hlt : i < 2
        · have HCS : Hid (cslots keep s1 (i + 1) = unwr i (if (cslots keep s1 i).wr i then copyD i (slotM keep i) (cslots keep s1 i) else cslots keep s1 i)) := Lib.hid rfl
          generalize cslots keep s1 i = s2 at *
          have cw := h.cell (h.cells.wr i hlt)
          have j1 : (0 : Int) ≤ (i : Int) := by omega
          have j2 : (i : Int) < 2 := by omega
          cases hwr : s2.wr i
          · rw [hwr] at cw
            have HCS2 : Hid (cslots keep s1 (i + 1) = unwr i s2) := Lib.hid (by rw [HCS.out, hwr]; rfl)
            have HNX : Hid (Next w1 base F g (unwr i s2) (wr.setCell ⟨g, 6 + i * 65 + 64, none⟩ (.bool false))) := Lib.hid (Next.trans (s' := s2) hfr hF'
              ⟨F', ⟨_, _, _, _, _, h.set_ (6 + i * 65 + 64) (.bool false) (s' := unwr i s2) ⟨h.ok.cap, h.ok.room, h.ok.safe, h.ok.sl, h.ok.lo, h.ok.fuse⟩ (h.cells.set_wr hlt false) (fun _ _ => ⟨rfl, rfl⟩) ⟨rfl, rfl⟩⟩, Fr.setCell (p := ⟨g, 6 + i * 65 + 64, none⟩) (Fr.refl _ _) (.inl h.fg) _, fun _ h => .inl h⟩)
            have fz := h.blk.frozen (6 + i * 65 + 64)
            clear h hwr hfr hF' hzr hbF HCS
            go_wp2_with fail
            go_roundw
            case rel => exact ⟨i + 1, by omega, by go_num, by rw [HCS2.out]; exact HNX.out⟩
            case measure => simp [intOf]; omega
          · rw [hwr] at cw
            obtain ⟨M, hM⟩ : ∃ M, M = slotM keep i := ⟨_, rfl⟩
            have HCS2 : Hid (cslots keep s1 (i + 1) = unwr i (copyD i M s2)) := Lib.hid (by rw [HCS.out, hwr, hM]; rfl)
            have hck : wr.cell? ⟨w.heap.size, 2 + i, none⟩ = some (.int .i64 (keep (2 + i))) := by
              rcases (by omega : i = 0 ∨ i = 1) with rfl | rfl
              · exact Blk.at_ hzr 2 rfl
              · exact Blk.at_ hzr 3 rfl
            have hM32 : M ≤ 32 := by rw [hM]; unfold slotM; omega
            have hl32 := h.ok.lo i hlt
            have htk : ((s2.lo i).take M).length = M := by rw [List.length_take, hl32]; omega
            have hd := h.below ((Below.refl _ wr).drew)
            have HSRC : Hid (∀ j u, (bs ((s2.lo i).take M))[j]? = some u → wr.drew.cell? ((⟨g, 6 + i * 65 + 32, none⟩ : Addr).add j) = some u) := Lib.hid fun j u hu => by
              have hj : j < M := by have := (List.getElem?_eq_some_iff.1 hu).1; rw [bs_length, htk] at this; exact this
              rw [Addr.add_lit]
              refine hd.cell ((h.cells.lo i hlt j (by omega)).trans ?_)
              rw [show bs ((s2.lo i).take M) = (bs (s2.lo i)).take M by simp [bs, List.map_take], List.getElem?_take_of_lt hj] at hu
              exact hu
            have HDST : Hid (∀ j, j < (bs ((s2.lo i).take M)).length → (wr.drew.cell? ⟨g, 6 + i * 65 + j, none⟩).isSome = true) := Lib.hid fun j hj => by
              rw [bs_length, htk] at hj
              have hsl := h.ok.sl i hlt
              rw [hd.cell ((h.cells.sl i hlt j (by omega)).trans (List.getElem?_eq_getElem (by rw [bs_length]; omega)))]; rfl
            have HFZ : Hid (∀ j, j < (bs ((s2.lo i).take M)).length → wr.drew.frozen? ⟨g, 6 + i * 65 + j, none⟩ = false) := Lib.hid fun j _ => hd.blk.frozen _
            obtain ⟨cs4, k1, k2, k3⟩ := setCells_get (vs := bs ((s2.lo i).take M)) (o := 6 + i * 65) hd.blk (by rw [bs_length, htk, h.cells.size]; omega)
            have h4 := hd.cells_set (6 + i * 65) (bs ((s2.lo i).take M)) (s' := copyD i M s2) (copyD_ok h.ok hlt) k1 (h.cells.copy_sl hlt (by rw [htk]; exact hM32) (h.ok.sl i hlt) k2 k3) ⟨rfl, rfl⟩
            have hfr4 : Fr F' wr (wr.drew.setCells g (6 + i * 65) (bs ((s2.lo i).take M))) := Fr.setCells g _ _ ((Fr.refl _ wr).drew) (.inl h.fg)
            have HS4 : Hid ((wr.drew.setCells g (6 + i * 65) (bs ((s2.lo i).take M))).cell? ⟨w.heap.size, 2 + i, none⟩ = some (.int .i64 (keep (2 + i)))) := Lib.hid ((World.cell?_of_block ((hzr.fr hfr4 hbF).trans hzr.symm)).trans hck)
            have cw4 := h4.cell ((h4.cells.wr i hlt).trans (congrArg (fun b => some (Value.bool b)) (show (copyD i M s2).wr i = true from hwr)))
            have fz4 := h4.blk.frozen (6 + i * 65 + 64)
            have HNX : Hid (Next w1 base F g (unwr i (copyD i M s2)) ((wr.drew.setCells g (6 + i * 65) (bs ((s2.lo i).take M))).setCell ⟨g, 6 + i * 65 + 64, none⟩ (.bool false))) := Lib.hid (Next.trans (s' := s2) hfr hF'
              ⟨F', ⟨_, _, _, _, _, h4.set_ (6 + i * 65 + 64) (.bool false) (s' := unwr i (copyD i M s2)) ⟨h4.ok.cap, h4.ok.room, h4.ok.safe, h4.ok.sl, h4.ok.lo, h4.ok.fuse⟩ (h4.cells.set_wr hlt false) (fun _ _ => ⟨rfl, rfl⟩) ⟨rfl, rfl⟩⟩, Fr.setCell (p := ⟨g, 6 + i * 65 + 64, none⟩) hfr4 (.inl h.fg) _, fun _ h => .inl h⟩)
            have hkb := HKP.out (2 + i) (by omega)
            have y0 : IntKind.i64.wrap (2 + (i : Int)) = 2 + (i : Int) := IntWalk.i64_in _ (by omega)
            have yT : (2 + (i : Int)).toNat = 2 + i := by omega
            have j3 : (0 : Int) ≤ 2 + (i : Int) := by omega
            have j4 : 2 + (i : Int) < 4 := by omega
            have HTK := Lib.hid htk
            have HM : Hid (M = min (keep (2 + i)).toNat 32) := Lib.hid hM
            clear h hd h4 k1 k2 k3 hfr4 hwr hfr hF' hzr hbF HCS hl32 htk hM
            have hS : wr.drew.cell? ⟨w.heap.size, 2 + i, none⟩ = some (.int .i64 (keep (2 + i))) := hck
            go_wp2_with fail
            by_cases hk0 : keep (2 + i) < 0
            · have HLN : Hid ((bs ((s2.lo i).take M)).length = Nat.min 32 0) := Lib.hid (by rw [bs_length, HTK.out, HM.out]; simp; omega)
              refine wp_region_heldG [] (fun _ W => W.cell? ⟨w.heap.size, 2 + i, none⟩ = some (.int .i64 (keep (2 + i)))) (by kernel_rfl) ?_
              change wpAnyG _ _ _ _ _ _ 15 _ _ (World.drew _)
              -- take0 take1 take2 take3 take4 take5 take6 take10 take11 take12 take13 one7 one8 take9 one14 done
              refine g_take (i := 0) rfl rfl (by kernel_rfl) (by kernel_rfl) (by kernel_rfl) (by kernel_rfl) (by kernel_rfl) (fun _ _ _ h => h) hS (fun L W hL hW => by go_simp; rfl) ?_
              refine g_take (i := 1) rfl rfl (by kernel_rfl) (by kernel_rfl) (by kernel_rfl) (by kernel_rfl) (by kernel_rfl) (fun _ _ _ h => h) hS (fun L W hL hW => by go_simp; rfl) ?_
              refine g_take (i := 2) rfl rfl (by kernel_rfl) (by kernel_rfl) (by kernel_rfl) (by kernel_rfl) (by kernel_rfl) (fun _ _ _ h => h) hS (fun L W hL hW => by go_simp; rfl) ?_
              refine g_take (i := 3) rfl rfl (by kernel_rfl) (by kernel_rfl) (by kernel_rfl) (by kernel_rfl) (by kernel_rfl) (fun _ _ _ h => h) hS (fun L W hL hW => by go_simp; rfl) ?_
              refine g_take (i := 4) rfl rfl (by kernel_rfl) (by kernel_rfl) (by kernel_rfl) (by kernel_rfl) (by kernel_rfl) (fun _ _ _ h => h) hS (fun L W hL hW => by go_simp; rfl) ?_
              refine g_take (i := 5) rfl rfl (by kernel_rfl) (by kernel_rfl) (by kernel_rfl) (by kernel_rfl) (by kernel_rfl) (fun _ _ _ h => h) hS (fun L W hL hW => by go_simp; rfl) ?_
              refine g_take (i := 6) rfl rfl (by kernel_rfl) (by kernel_rfl) (by kernel_rfl) (by kernel_rfl) (by kernel_rfl) (fun _ _ _ h => h) hS (fun L W hL hW => by have q1 := hW; go_simp; rfl) ?_
              refine g_take (i := 10) rfl rfl (by kernel_rfl) (by kernel_rfl) (by kernel_rfl) (by kernel_rfl) (by kernel_rfl) (fun _ _ _ h => h) hS (fun L W hL hW => by go_simp; rfl) ?_
              refine g_take (i := 11) rfl rfl (by kernel_rfl) (by kernel_rfl) (by kernel_rfl) (by kernel_rfl) (by kernel_rfl) (fun _ _ _ h => h) hS (fun L W hL hW => by go_simp; rfl) ?_
              refine g_take (i := 12) rfl rfl (by kernel_rfl) (by kernel_rfl) (by kernel_rfl) (by kernel_rfl) (by kernel_rfl) (fun _ _ _ h => h) hS (fun L W hL hW => by go_simp; rfl) ?_
              refine g_take (i := 13) rfl rfl (by kernel_rfl) (by kernel_rfl) (by kernel_rfl) (by kernel_rfl) (by kernel_rfl) (fun _ _ _ h => h) hS (fun L W hL hW => by go_simp; rfl) ?_
              refine g_one (i := 7) rfl rfl (by kernel_rfl) fun K hK => ?_
              go_simp
              refine hK _ _ hS ?_
              clear hK K
              refine g_one (i := 8) rfl rfl (by kernel_rfl) fun K hK => ?_
              go_simp
              refine hK _ _ hS ?_
              clear hK K
              refine g_take (i := 9) rfl rfl (by kernel_rfl) (by kernel_rfl) (by kernel_rfl) (by kernel_rfl) (by kernel_rfl) (fun _ _ _ h => h) hS (fun L W hL hW => by go_simp; rfl) ?_
              refine g_one (i := 14) rfl rfl (by kernel_rfl) fun K hK => ?_
              refine wp_copy_run _ (.tmp 82) (.tmp 86) _ _ rfl _ _ rfl rfl (run_copy_cells (P := Try.prog) _ 25 25 _ 5 g (6 + i * 65) 0 32 ⟨g, 6 + i * 65 + 32, none⟩ 32 32 (bs ((s2.lo i).take M)) Try.underlying25 (by kernel_rfl) HLN.out HSRC.out HDST.out HFZ.out (bs_one _)) ?_
              refine hK _ _ HS4.out ?_
              clear hK K
              refine wpAnyG_done (by kernel_rfl) ?_ _
              go_simp
              go_wp2_with fail
              go_roundw
              case rel => (repeat apply Exists.intro); exact ⟨⟨i + 1, by omega, by go_num, by rw [HCS2.out]; exact HNX.out⟩, rfl⟩
              case measure => simp [intOf]; omega
            · obtain ⟨kp, hkp⟩ : ∃ kp : Nat, keep (2 + i) = kp := ⟨(keep (2 + i)).toNat, by omega⟩
              have HT : Hid ((keep (2 + i)).toNat = kp) := Lib.hid (by rw [hkp]; rfl)
              rw [hkp] at hS hck HS4
              have u0' : ¬ (kp : Int) < 0 := by omega
              by_cases hdk : 32 < kp
              · have HLN : Hid ((bs ((s2.lo i).take M)).length = Nat.min 32 32) := Lib.hid (by rw [bs_length, HTK.out, HM.out, HT.out]; simp; omega)
                have u1 : (32 : Int) < (kp : Int) := by omega
                clear hkp hk0 hkb
                refine wp_region_heldG [] (fun _ W => W.cell? ⟨w.heap.size, 2 + i, none⟩ = some (.int .i64 (kp : Int))) (by kernel_rfl) ?_
                change wpAnyG _ _ _ _ _ _ 15 _ _ (World.drew _)
                -- take0 take1 take2 take3 take4 take5 take6 take10 take11 take12 take13 one7 one8 take9 one14 done
                refine g_take (i := 0) rfl rfl (by kernel_rfl) (by kernel_rfl) (by kernel_rfl) (by kernel_rfl) (by kernel_rfl) (fun _ _ _ h => h) hS (fun L W hL hW => by go_simp; rfl) ?_
                refine g_take (i := 1) rfl rfl (by kernel_rfl) (by kernel_rfl) (by kernel_rfl) (by kernel_rfl) (by kernel_rfl) (fun _ _ _ h => h) hS (fun L W hL hW => by go_simp; rfl) ?_
                refine g_take (i := 2) rfl rfl (by kernel_rfl) (by kernel_rfl) (by kernel_rfl) (by kernel_rfl) (by kernel_rfl) (fun _ _ _ h => h) hS (fun L W hL hW => by go_simp; rfl) ?_
                refine g_take (i := 3) rfl rfl (by kernel_rfl) (by kernel_rfl) (by kernel_rfl) (by kernel_rfl) (by kernel_rfl) (fun _ _ _ h => h) hS (fun L W hL hW => by go_simp; rfl) ?_
                refine g_take (i := 4) rfl rfl (by kernel_rfl) (by kernel_rfl) (by kernel_rfl) (by kernel_rfl) (by kernel_rfl) (fun _ _ _ h => h) hS (fun L W hL hW => by go_simp; rfl) ?_
                refine g_take (i := 5) rfl rfl (by kernel_rfl) (by kernel_rfl) (by kernel_rfl) (by kernel_rfl) (by kernel_rfl) (fun _ _ _ h => h) hS (fun L W hL hW => by go_simp; rfl) ?_
                refine g_take (i := 6) rfl rfl (by kernel_rfl) (by kernel_rfl) (by kernel_rfl) (by kernel_rfl) (by kernel_rfl) (fun _ _ _ h => h) hS (fun L W hL hW => by have q1 := hW; go_simp; rfl) ?_
                refine g_take (i := 10) rfl rfl (by kernel_rfl) (by kernel_rfl) (by kernel_rfl) (by kernel_rfl) (by kernel_rfl) (fun _ _ _ h => h) hS (fun L W hL hW => by go_simp; rfl) ?_
                refine g_take (i := 11) rfl rfl (by kernel_rfl) (by kernel_rfl) (by kernel_rfl) (by kernel_rfl) (by kernel_rfl) (fun _ _ _ h => h) hS (fun L W hL hW => by go_simp; rfl) ?_
                refine g_take (i := 12) rfl rfl (by kernel_rfl) (by kernel_rfl) (by kernel_rfl) (by kernel_rfl) (by kernel_rfl) (fun _ _ _ h => h) hS (fun L W hL hW => by go_simp; rfl) ?_
                refine g_take (i := 13) rfl rfl (by kernel_rfl) (by kernel_rfl) (by kernel_rfl) (by kernel_rfl) (by kernel_rfl) (fun _ _ _ h => h) hS (fun L W hL hW => by go_simp; rfl) ?_
                refine g_one (i := 7) rfl rfl (by kernel_rfl) fun K hK => ?_
                go_simp
                refine hK _ _ hS ?_
                clear hK K
                refine g_one (i := 8) rfl rfl (by kernel_rfl) fun K hK => ?_
                go_simp
                refine hK _ _ hS ?_
                clear hK K
                refine g_take (i := 9) rfl rfl (by kernel_rfl) (by kernel_rfl) (by kernel_rfl) (by kernel_rfl) (by kernel_rfl) (fun _ _ _ h => h) hS (fun L W hL hW => by go_simp; rfl) ?_
                refine g_one (i := 14) rfl rfl (by kernel_rfl) fun K hK => ?_
                refine wp_copy_run _ (.tmp 82) (.tmp 86) _ _ rfl _ _ rfl rfl (run_copy_cells (P := Try.prog) _ 25 25 _ 5 g (6 + i * 65) 32 32 ⟨g, 6 + i * 65 + 32, none⟩ 32 32 (bs ((s2.lo i).take M)) Try.underlying25 (by kernel_rfl) HLN.out HSRC.out HDST.out HFZ.out (bs_one _)) ?_
                refine hK _ _ HS4.out ?_
                clear hK K
                refine wpAnyG_done (by kernel_rfl) ?_ _
                go_simp
                go_wp2_with fail
                go_roundw
                case rel => (repeat apply Exists.intro); exact ⟨⟨i + 1, by omega, by go_num, by rw [HCS2.out]; exact HNX.out⟩, rfl, rfl, rfl⟩
                case measure => simp [intOf]; omega
              · have HLN : Hid ((bs ((s2.lo i).take M)).length = Nat.min 32 kp) := Lib.hid (by rw [bs_length, HTK.out, HM.out, HT.out]; exact Nat.min_comm _ _)
                have u1 : ¬ (32 : Int) < (kp : Int) := by omega
                have u2 : (kp : Int) ≤ 32 := by omega
                have u3 : (0 : Int) ≤ (kp : Int) := by omega
                clear hkp hk0 hkb
                refine wp_region_heldG [] (fun _ W => W.cell? ⟨w.heap.size, 2 + i, none⟩ = some (.int .i64 (kp : Int))) (by kernel_rfl) ?_
                change wpAnyG _ _ _ _ _ _ 15 _ _ (World.drew _)
                -- take0 take1 take2 take3 take4 take5 take6 take10 take11 take12 take13 one7 one8 take9 one14 done
                refine g_take (i := 0) rfl rfl (by kernel_rfl) (by kernel_rfl) (by kernel_rfl) (by kernel_rfl) (by kernel_rfl) (fun _ _ _ h => h) hS (fun L W hL hW => by go_simp; rfl) ?_
                refine g_take (i := 1) rfl rfl (by kernel_rfl) (by kernel_rfl) (by kernel_rfl) (by kernel_rfl) (by kernel_rfl) (fun _ _ _ h => h) hS (fun L W hL hW => by go_simp; rfl) ?_
                refine g_take (i := 2) rfl rfl (by kernel_rfl) (by kernel_rfl) (by kernel_rfl) (by kernel_rfl) (by kernel_rfl) (fun _ _ _ h => h) hS (fun L W hL hW => by go_simp; rfl) ?_
                refine g_take (i := 3) rfl rfl (by kernel_rfl) (by kernel_rfl) (by kernel_rfl) (by kernel_rfl) (by kernel_rfl) (fun _ _ _ h => h) hS (fun L W hL hW => by go_simp; rfl) ?_
                refine g_take (i := 4) rfl rfl (by kernel_rfl) (by kernel_rfl) (by kernel_rfl) (by kernel_rfl) (by kernel_rfl) (fun _ _ _ h => h) hS (fun L W hL hW => by go_simp; rfl) ?_
                refine g_take (i := 5) rfl rfl (by kernel_rfl) (by kernel_rfl) (by kernel_rfl) (by kernel_rfl) (by kernel_rfl) (fun _ _ _ h => h) hS (fun L W hL hW => by go_simp; rfl) ?_
                refine g_take (i := 6) rfl rfl (by kernel_rfl) (by kernel_rfl) (by kernel_rfl) (by kernel_rfl) (by kernel_rfl) (fun _ _ _ h => h) hS (fun L W hL hW => by have q1 := hW; go_simp; rfl) ?_
                refine g_take (i := 10) rfl rfl (by kernel_rfl) (by kernel_rfl) (by kernel_rfl) (by kernel_rfl) (by kernel_rfl) (fun _ _ _ h => h) hS (fun L W hL hW => by go_simp; rfl) ?_
                refine g_take (i := 11) rfl rfl (by kernel_rfl) (by kernel_rfl) (by kernel_rfl) (by kernel_rfl) (by kernel_rfl) (fun _ _ _ h => h) hS (fun L W hL hW => by go_simp; rfl) ?_
                refine g_take (i := 12) rfl rfl (by kernel_rfl) (by kernel_rfl) (by kernel_rfl) (by kernel_rfl) (by kernel_rfl) (fun _ _ _ h => h) hS (fun L W hL hW => by go_simp; rfl) ?_
                refine g_take (i := 13) rfl rfl (by kernel_rfl) (by kernel_rfl) (by kernel_rfl) (by kernel_rfl) (by kernel_rfl) (fun _ _ _ h => h) hS (fun L W hL hW => by go_simp; rfl) ?_
                refine g_one (i := 7) rfl rfl (by kernel_rfl) fun K hK => ?_
                go_simp
                refine hK _ _ hS ?_
                clear hK K
                refine g_one (i := 8) rfl rfl (by kernel_rfl) fun K hK => ?_
                go_simp
                refine hK _ _ hS ?_
                clear hK K
                refine g_take (i := 9) rfl rfl (by kernel_rfl) (by kernel_rfl) (by kernel_rfl) (by kernel_rfl) (by kernel_rfl) (fun _ _ _ h => h) hS (fun L W hL hW => by go_simp; rfl) ?_
                refine g_one (i := 14) rfl rfl (by kernel_rfl) fun K hK => ?_
                refine wp_copy_run _ (.tmp 82) (.tmp 86) _ _ rfl _ _ rfl rfl (run_copy_cells (P := Try.prog) _ 25 25 _ 5 g (6 + i * 65) kp 32 ⟨g, 6 + i * 65 + 32, none⟩ 32 32 (bs ((s2.lo i).take M)) Try.underlying25 (by kernel_rfl) HLN.out HSRC.out HDST.out HFZ.out (bs_one _)) ?_
                refine hK _ _ HS4.out ?_
                clear hK K
                refine wpAnyG_done (by kernel_rfl) ?_ _
                go_simp
                go_wp2_with fail
                go_roundw
                case rel => (repeat apply Exists.intro); exact ⟨⟨i + 1, by omega, by go_num, by rw [HCS2.out]; exact HNX.out⟩, rfl, rfl, rfl⟩
                case measure => simp [intOf]; omega
        · obtain rfl : i = 2 := by omega
          generalize cslots keep s1 2 = s2 at *
          have c137 := h.cell h.cells.c137
          have h5 := h.dead false
          have c136 := h5.cell h5.cells.c136
          have fz1 := h.blk.frozen 137
          have fz2 := h5.blk.frozen 136
          have HNX : Hid (Next w base F g (revive s2) ((wr.setCell ⟨g, 137, none⟩ (.bool false)).setCell ⟨g, 136, none⟩ (.pointer none))) := Lib.hid (Next.trans (s' := s) (Fr.of_below hB F) (fun _ h => .inl h) (Next.trans (s' := s2) hfr hF'
            ⟨F', ⟨_, v, .pointer none, R, fun _ => False, ⟨h.ok.cap, h.ok.room, h.ok.safe, h.ok.sl, h.ok.lo, fun _ _ e => by cases e⟩, h5.blk.set_ _ _, h5.cells.fuse _ none, fun j hj => (h5.row j hj).fr (G := fun k => k = g) (Fr.setCell (F := fun k => k = g) (p := ⟨g, 136, none⟩) (Fr.refl _ _) (.inl rfl) _) (fun k hk e => (h5.fR j hj k hk).2 e), rfl, h5.fg, h5.fR, fun _ e => e.elim, h5.apart, fun j hj => by simpa using h.lo j hj⟩,
              Fr.setCell (p := ⟨g, 136, none⟩) (Fr.setCell (p := ⟨g, 137, none⟩) (Fr.refl _ _) (.inl h.fg) _) (.inl h.fg) _, fun _ h => .inl h⟩))
          clear h h5 hfr hF' hzr hbF hlt
          go_wp2_with fail
          go_end0
          rw [HDEF.out]
          exact ⟨⟨_, rfl⟩, HNX.out⟩
end
end Go.Proofs.Ytpohefpiidlnjaa.Dk
