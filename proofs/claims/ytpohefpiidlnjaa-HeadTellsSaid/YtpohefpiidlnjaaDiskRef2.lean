/-
  The walks of the document's disk: Head, Free, kills.
-/
import Derived.Test.YtpohefpiidlnjaaDiskRef1
namespace Go.Proofs.Ytpohefpiidlnjaa.Dr
set_option linter.unusedVariables false
open Go Go.RowKit Go.Proofs Go.Proofs.Ytpohefpiidlnjaa Go.Proofs.Ytpohefpiidlnjaa.Wd
open Go.Proofs.Ytpohefpiidlnjaa.Dk (DS upd upd_eq upd_ne Fresh rd hd free own_empty Ok among_yes)

/-- A slice that reads so. -/
def SliceOut (F : Nat → Prop) (l : List UInt8) (w : World) (e : Ending) (w' : World) : Prop := (∃ x : Sl, e = .returned (.slice x.1 x.2.1 x.2.2) ∧ Ref w' F x l) ∧ Below w.heap.size w w'
/-- What a call answers, and leaves, that makes another disk. -/
def Turned (F : Nat → Prop) (r : Nat × DS) (w : World) (e : Ending) (w' : World) : Prop := (∃ (v : Nat → Sl) (cl k : Int), e = .returned (.tuple #[rval r.2 v cl k, .int .i64 (r.1 : Nat)]) ∧ RV w' F r.2 v cl k) ∧ Below w.heap.size w w'
def Turned1 (F : Nat → Prop) (s : DS) (w : World) (e : Ending) (w' : World) : Prop := (∃ (v : Nat → Sl) (cl k : Int), e = .returned (rval s v cl k) ∧ RV w' F s v cl k) ∧ Below w.heap.size w w'
def KillsOut (s : DS) (v : Nat → Sl) (k : Int) (w : World) (e : Ending) (w' : World) : Prop := (∃ cl' : Int, e = .returned (.tuple #[rval (killed s) v cl' k, .bool (kb s)]) ∧ (∀ a b, (killed s).fuse = some (a, b) → cl' = a ∧ k = b)) ∧ Below w.heap.size w w'
/-- Two results, the first of them a row that lies in memory. -/
theorem results_cell_row2 {P : Program} {fn : Func} {p t : Tmp} {ty : TypeId} (h : fn.results = #[.cell p ty, .tmp t]) (tmps : Array Value) (w : World) (g : Nat) (te : TypeId) (cs : Array Value) (fr : Nat × Nat) (d : TypeDesc)
    (hp : tmps.getD p undef = .pointer (some ⟨g, 0, none⟩)) (hg : w.heap[g]? = some (.cells cs te fr))
    (hu : P.underlying ty = some d) (hd : (match d with | .struct _ | .array _ _ => true | _ => false) = true) (hi : (P.info? ty).map (·.size) = some cs.size) :
    (results fn tmps).run P w = .ok (.tuple #[.agg cs, tmps.getD t undef]) w := by
  have hp' : tmps[p]?.getD undef = .pointer (some ⟨g, 0, none⟩) := by simpa using hp
  simp [results, h, hp', asAddr, run_loadVar_row w g te ty cs fr d hg hu hd hi]
/-- One result, a row that lies in memory. -/
theorem results_cell_row1 {P : Program} {fn : Func} {p : Tmp} {ty : TypeId} (h : fn.results = #[.cell p ty]) (tmps : Array Value) (w : World) (g : Nat) (te : TypeId) (cs : Array Value) (fr : Nat × Nat) (d : TypeDesc)
    (hp : tmps.getD p undef = .pointer (some ⟨g, 0, none⟩)) (hg : w.heap[g]? = some (.cells cs te fr))
    (hu : P.underlying ty = some d) (hd : (match d with | .struct _ | .array _ _ => true | _ => false) = true) (hi : (P.info? ty).map (·.size) = some cs.size) :
    (results fn tmps).run P w = .ok (.agg cs) w := by
  have hp' : tmps[p]?.getD undef = .pointer (some ⟨g, 0, none⟩) := by simpa using hp
  simp [results, h, hp', asAddr, run_loadVar_row w g te ty cs fr d hg hu hd hi]
theorem run_load_row {P : Program} {o : Oper} {a : Act} {w : World} (ty : TypeId) (x : Operand) (ho : o.op = .load ty x) (g : Nat) (hx : a.eval x = .pointer (some ⟨g, 0, none⟩)) (t : TypeId) (cs : Array Value) (fr : Nat × Nat) (d : TypeDesc) (hg : w.heap[g]? = some (.cells cs t fr))
    (hu : P.underlying ty = some d) (hd : (match d with | .struct _ | .array _ _ => true | _ => false) = true) (hi : (P.info? ty).map (·.size) = some cs.size) : (execOp a.eval o).run P w = .ok (.value (.agg cs)) w := by
  unfold execOp
  simp only [ho, hx, Instr.loadAt, Instr.sureAddr, Sem.run_bind, Sem.run_pure, Result.andThen_ok, run_loadVar_row w g t ty cs fr d hg hu hd hi]
section
variable {w : World} {F : Nat → Prop} {s : DS} {v : Nat → Sl} {cl k : Int}
theorem rhead (ok : Ok s) (h : RV w F s v cl k) (i : Int) : Calls Try.prog 49 #[rval s v cl k, .int .i64 i] w (SliceOut F (hd s i) w) := by
  have hB : Below w.heap.size w (w.alloc (.cells #[.int .i64 (s.cap : Nat), .slice (v 1).1 (v 1).2.1 (v 1).2.2, .slice (v 2).1 (v 2).2.1 (v 2).2.2, .slice (v 3).1 (v 3).2.1 (v 3).2.2, .slice (v 4).1 (v 4).2.1 (v 4).2.2, .slice (v 5).1 (v 5).2.1 (v 5).2.2, .slice (v 6).1 (v 6).2.1 (v 6).2.2, .slice (v 7).1 (v 7).2.1 (v 7).2.2, .slice (v 8).1 (v 8).2.1 (v 8).2.2, .bool s.fuse.isSome, .int .i64 cl, .int .i64 k, .bool s.dead] 69)) := (Below.refl _ w).alloc (Nat.le_refl _) _
  unfold rval rcells
  cases hd : s.dead
  rotate_left
  · have HR : Hid (Dk.hd s i = []) := Lib.hid (by unfold Dk.hd; rw [hd]; rfl)
    rw [hd] at hB
    clear h ok hd
    go_enter Try.func49, Try.ntmps49
    go_wp2_with fail
    go_ret
    rw [HR.out]
    exact ⟨⟨(none, 0, 0), rfl, Ref.nil _ _⟩, hB⟩
  by_cases h0 : i < 0
  · have HR : Hid (Dk.hd s i = []) := Lib.hid (by unfold Dk.hd; rw [hd, if_neg (by simp), if_neg (by simp; omega)])
    rw [hd] at hB
    clear h ok hd
    go_enter Try.func49, Try.ntmps49
    go_wp2_with fail
    go_ret
    rw [HR.out]
    exact ⟨⟨(none, 0, 0), rfl, Ref.nil _ _⟩, hB⟩
  by_cases h1 : 1 < i
  · have HR : Hid (Dk.hd s i = []) := Lib.hid (by unfold Dk.hd; rw [hd, if_neg (by simp), if_neg (by simp; omega)])
    rw [hd] at hB
    clear h ok hd
    go_enter Try.func49, Try.ntmps49
    go_wp2_with fail
    go_ret
    rw [HR.out]
    exact ⟨⟨(none, 0, 0), rfl, Ref.nil _ _⟩, hB⟩
  rcases (by omega : i = 0 ∨ i = 1) with rfl | rfl
  all_goals clear h0 h1
  · have HR : Hid (Dk.hd s 0 = if s.wr 0 then s.lo 0 else s.sl 0) := Lib.hid (by unfold Dk.hd; rw [hd, if_neg (by simp), if_pos (by decide)]; rfl)
    have h32 := ok.lo 0 (by omega)
    have hc := h.c0.below hB
    have hd2 := h.d0.below hB
    have hlc := hc.len
    have hld := hd2.len
    cases hwr : s.wr 0
    · rw [hwr, if_neg (by simp)] at hld
      simp only [List.length_nil] at hld
      rw [hd] at hB
      have HC := Lib.hid hc
      rw [hd] at HC
      rw [hwr, if_neg (by simp)] at HR
      clear h ok hd hc hd2 hwr h32 hlc
      generalize v 5 = y1 at *
      generalize v 6 = y2 at *
      obtain ⟨A1, n1, c1⟩ := y1
      obtain ⟨A2, n2, c2⟩ := y2
      simp only at hld
      subst hld
      go_enter Try.func49, Try.ntmps49
      go_wp2_with fail
      go_ret
      rw [HR.out]
      exact ⟨⟨(A1, n1, c1), rfl, HC.out⟩, hB⟩
    · rw [hwr, if_pos rfl] at hld
      rw [h32] at hld
      rw [hd] at hB
      rw [hwr, if_pos rfl] at hd2
      have HC := Lib.hid hd2
      rw [hd] at HC
      rw [hwr, if_pos rfl] at HR
      clear h ok hd hc hd2 hwr h32 hlc
      generalize v 5 = y1 at *
      generalize v 6 = y2 at *
      obtain ⟨A1, n1, c1⟩ := y1
      obtain ⟨A2, n2, c2⟩ := y2
      simp only at hld
      subst hld
      go_enter Try.func49, Try.ntmps49
      go_wp2_with fail
      go_ret
      rw [HR.out]
      exact ⟨⟨(A2, 32, c2), rfl, HC.out⟩, hB⟩
  · have HR : Hid (Dk.hd s 1 = if s.wr 1 then s.lo 1 else s.sl 1) := Lib.hid (by unfold Dk.hd; rw [hd, if_neg (by simp), if_pos (by decide)]; rfl)
    have h32 := ok.lo 1 (by omega)
    have hc := h.c1.below hB
    have hd2 := h.d1.below hB
    have hlc := hc.len
    have hld := hd2.len
    cases hwr : s.wr 1
    · rw [hwr, if_neg (by simp)] at hld
      simp only [List.length_nil] at hld
      rw [hd] at hB
      have HC := Lib.hid hc
      rw [hd] at HC
      rw [hwr, if_neg (by simp)] at HR
      clear h ok hd hc hd2 hwr h32 hlc
      generalize v 7 = y1 at *
      generalize v 8 = y2 at *
      obtain ⟨A1, n1, c1⟩ := y1
      obtain ⟨A2, n2, c2⟩ := y2
      simp only at hld
      subst hld
      go_enter Try.func49, Try.ntmps49
      go_wp2_with fail
      go_ret
      rw [HR.out]
      exact ⟨⟨(A1, n1, c1), rfl, HC.out⟩, hB⟩
    · rw [hwr, if_pos rfl] at hld
      rw [h32] at hld
      rw [hd] at hB
      rw [hwr, if_pos rfl] at hd2
      have HC := Lib.hid hd2
      rw [hd] at HC
      rw [hwr, if_pos rfl] at HR
      clear h ok hd hc hd2 hwr h32 hlc
      generalize v 7 = y1 at *
      generalize v 8 = y2 at *
      obtain ⟨A1, n1, c1⟩ := y1
      obtain ⟨A2, n2, c2⟩ := y2
      simp only at hld
      subst hld
      go_enter Try.func49, Try.ntmps49
      go_wp2_with fail
      go_ret
      rw [HR.out]
      exact ⟨⟨(A2, 32, c2), rfl, HC.out⟩, hB⟩
theorem rfree (ok : Ok s) (h : RV w F s v cl k) : Calls Try.prog 55 #[rval s v cl k] w fun e w' => e = .returned (.int .i64 (free s : Nat)) ∧ Below w.heap.size w w' := by
  have hB : Below w.heap.size w (w.alloc (.cells #[.int .i64 (s.cap : Nat), .slice (v 1).1 (v 1).2.1 (v 1).2.2, .slice (v 2).1 (v 2).2.1 (v 2).2.2, .slice (v 3).1 (v 3).2.1 (v 3).2.2, .slice (v 4).1 (v 4).2.1 (v 4).2.2, .slice (v 5).1 (v 5).2.1 (v 5).2.2, .slice (v 6).1 (v 6).2.1 (v 6).2.2, .slice (v 7).1 (v 7).2.1 (v 7).2.2, .slice (v 8).1 (v 8).2.1 (v 8).2.2, .bool s.fuse.isSome, .int .i64 cl, .int .i64 k, .bool s.dead] 69)) := (Below.refl _ w).alloc (Nat.le_refl _) _
  cases hd : s.dead
  rotate_left
  · have HR : Hid (free s = 0) := Lib.hid (by unfold Dk.free; rw [hd]; rfl)
    unfold rval rcells
    rw [hd] at hB ⊢
    clear h ok hd
    go_enter Try.func55, Try.ntmps55
    go_wp2_with fail
    go_ret
    rw [HR.out]
    exact ⟨rfl, hB⟩
  have hr := ok.room
  have hcp := ok.cap
  have HR : Hid (((free s : Nat) : Int) = (s.cap : Int) - (s.all 0).length - (s.all 1).length) := Lib.hid (by unfold Dk.free; rw [hd, if_neg (by simp)]; omega)
  have allc0 : ∀ W, Below w.heap.size w W → Calls Try.prog 60 #[rval s v cl k, .int .i64 0] W (Fresh W (s.all 0)) := fun W hb => all0 ok (h.below hb)
  have allc1 : ∀ W, Below w.heap.size w W → Calls Try.prog 60 #[rval s v cl k, .int .i64 1] W (Fresh W (s.all 1)) := fun W hb => all1 ok (h.below hb)
  have hS := Blk.new_ w 69 (rcells s v cl k) rfl
  have hW : Below w.heap.size w (w.alloc (.cells (rcells s v cl k) 69)) := (Below.refl _ w).alloc (Nat.le_refl _) _
  have x12 : (rcells s v cl k)[12]? = some (.bool false) := by rw [← hd]; rfl
  have x0 : (rcells s v cl k)[0]? = some (.int .i64 (s.cap : Nat)) := rfl
  have xs : (rcells s v cl k).size = 13 := rfl
  unfold rval at allc0 allc1 ⊢
  generalize rcells s v cl k = X at *
  generalize hn0 : (s.all 0).length = n0 at *
  generalize hn1 : (s.all 1).length = n1 at *
  have HL0 := Lib.hid hn0
  have HL1 := Lib.hid hn1
  clear hn0 hn1
  generalize s.cap = cp at *
  have y1 : IntKind.i64.wrap ((cp : Int) - n0) = (cp : Int) - n0 := IntWalk.i64_in _ (by omega)
  have y2 : IntKind.i64.wrap ((cp : Int) - n0 - n1) = (cp : Int) - n0 - n1 := IntWalk.i64_in _ (by omega)
  clear h ok hd hr hB
  have q0 := hS.at_ 12 x12
  go_enter Try.func55, Try.ntmps55
  go_wp2_with fail
  clear q0 x12
  refine wp_region_heldG [] (fun _ W => Blk W w.heap.size 69 X) (by kernel_rfl) ?_
  change wpAnyG _ _ _ _ _ _ 11 _ _ (World.drew _)
  have hS := hS.drew
  have HW := Lib.hid hW.drew
  clear hW
  -- take0 take1 take2 take6 one3 take4 take5 one7 take8 take9 take10 done
  refine g_take (i := 0) rfl rfl (by kernel_rfl) (by kernel_rfl) (by kernel_rfl) (by kernel_rfl) (by kernel_rfl) (fun _ _ _ h => h) hS (fun L W hL hW => by go_simp; rfl) ?_
  refine g_take (i := 1) rfl rfl (by kernel_rfl) (by kernel_rfl) (by kernel_rfl) (by kernel_rfl) (by kernel_rfl) (fun _ _ _ h => h) hS (fun L W hL hW => by have q := hW.at_ 0 x0; go_simp; rfl) ?_
  refine g_take (i := 2) rfl rfl (by kernel_rfl) (by kernel_rfl) (by kernel_rfl) (by kernel_rfl) (by kernel_rfl) (fun _ _ _ h => h) hS (fun L W hL hW => run_load_row 69 (.tmp 1) rfl w.heap.size (by go_simp) 69 X _ _ (hW.out) Try.underlying69 rfl (by rw [xs]; kernel_rfl)) ?_
  refine g_take (i := 6) rfl rfl (by kernel_rfl) (by kernel_rfl) (by kernel_rfl) (by kernel_rfl) (by kernel_rfl) (fun _ _ _ h => h) hS (fun L W hL hW => run_load_row 69 (.tmp 1) rfl w.heap.size (by go_simp) 69 X _ _ (hW.out) Try.underlying69 rfl (by rw [xs]; kernel_rfl)) ?_
  refine g_one (i := 3) rfl rfl (by kernel_rfl) fun K hK => ?_
  go_simp
  refine Calls.mono ((allc0 _ HW.out)) ?_
  rintro e w2 ⟨u0, rfl, hown, hb⟩
  obtain ⟨A0, c0, hu0⟩ := own_form hown
  rw [HL0.out] at hu0
  subst hu0
  have hS := hS.below hb hS.lt
  have hW2 := HW.out.trans (hb.mono HW.out.size)
  clear HW hown hb
  have HW := Lib.hid hW2
  clear hW2
  refine hK _ _ hS ?_
  clear hK K
  refine g_take (i := 4) rfl rfl (by kernel_rfl) (by kernel_rfl) (by kernel_rfl) (by kernel_rfl) (by kernel_rfl) (fun _ _ _ h => h) hS (fun L W hL hW => by go_simp; rfl) ?_
  refine g_take (i := 5) rfl rfl (by kernel_rfl) (by kernel_rfl) (by kernel_rfl) (by kernel_rfl) (by kernel_rfl) (fun _ _ _ h => h) hS (fun L W hL hW => by go_simp; rfl) ?_
  refine g_one (i := 7) rfl rfl (by kernel_rfl) fun K hK => ?_
  go_simp
  refine Calls.mono ((allc1 _ HW.out)) ?_
  rintro e w3 ⟨u1, rfl, hown, hb⟩
  obtain ⟨A1, c1, hu1⟩ := own_form hown
  rw [HL1.out] at hu1
  subst hu1
  have hS := hS.below hb hS.lt
  have hW2 := HW.out.trans (hb.mono HW.out.size)
  clear HW hown hb
  have HW := Lib.hid hW2
  clear hW2
  refine hK _ _ hS ?_
  clear hK K
  refine g_take (i := 8) rfl rfl (by kernel_rfl) (by kernel_rfl) (by kernel_rfl) (by kernel_rfl) (by kernel_rfl) (fun _ _ _ h => h) hS (fun L W hL hW => by go_simp; rfl) ?_
  refine g_take (i := 9) rfl rfl (by kernel_rfl) (by kernel_rfl) (by kernel_rfl) (by kernel_rfl) (by kernel_rfl) (fun _ _ _ h => h) hS (fun L W hL hW => by go_simp; rfl) ?_
  refine g_take (i := 10) rfl rfl (by kernel_rfl) (by kernel_rfl) (by kernel_rfl) (by kernel_rfl) (by kernel_rfl) (fun _ _ _ h => h) hS (fun L W hL hW => by go_simp; rfl) ?_
  refine wpAnyG_done (by kernel_rfl) ?_ _
  go_simp
  go_wp2_with fail
  go_ret
  exact ⟨by rw [HR.out]; rfl, HW.out⟩
theorem rkills (ok : Ok s) (fu : ∀ a b, s.fuse = some (a, b) → cl = a ∧ k = b) : Calls Try.prog 58 #[rval s v cl k] w (KillsOut s v k w) := by
  have h8 : ∀ (e : Ending) (w' : World), ((∃ cl', e = .returned (.tuple #[.agg #[.int .i64 ((killed s).cap : Nat), .slice (v 1).1 (v 1).2.1 (v 1).2.2, .slice (v 2).1 (v 2).2.1 (v 2).2.2, .slice (v 3).1 (v 3).2.1 (v 3).2.2, .slice (v 4).1 (v 4).2.1 (v 4).2.2, .slice (v 5).1 (v 5).2.1 (v 5).2.2, .slice (v 6).1 (v 6).2.1 (v 6).2.2, .slice (v 7).1 (v 7).2.1 (v 7).2.2, .slice (v 8).1 (v 8).2.1 (v 8).2.2, .bool (killed s).fuse.isSome, .int .i64 cl', .int .i64 k, .bool (killed s).dead], .bool (kb s)]) ∧ (∀ a b, (killed s).fuse = some (a, b) → cl' = a ∧ k = b)) ∧ Below w.heap.size w w') → KillsOut s v k w e w' := fun _ _ h => h
  unfold rval rcells
  have hfo := ok.fuse
  rcases hs : s.fuse with _ | ⟨_ | c, p⟩
  · have HK : Hid (killed s = s ∧ kb s = false) := Lib.hid (by unfold killed kb; rw [hs]; exact ⟨rfl, rfl⟩)
    have HS := Lib.hid hs
    have HF := Lib.hid fu
    clear hs fu hfo ok
    simp only [Option.isSome_none]
    go_enter Try.func58, Try.ntmps58
    go_wp2_with fail
    refine bodyPost_ret (results_cell_row2 rfl _ _ (w.heap.size + 1) 69 #[.int .i64 (s.cap : Nat), .slice (v 1).1 (v 1).2.1 (v 1).2.2, .slice (v 2).1 (v 2).2.1 (v 2).2.2, .slice (v 3).1 (v 3).2.1 (v 3).2.2, .slice (v 4).1 (v 4).2.1 (v 4).2.2, .slice (v 5).1 (v 5).2.1 (v 5).2.2, .slice (v 6).1 (v 6).2.1 (v 6).2.2, .slice (v 7).1 (v 7).2.1 (v 7).2.2, .slice (v 8).1 (v 8).2.1 (v 8).2.2, .bool false, .int .i64 cl, .int .i64 k, .bool s.dead] (0, 0) _ rfl (Blk.new_ (w.alloc (.cells #[.int .i64 (s.cap : Nat), .slice (v 1).1 (v 1).2.1 (v 1).2.2, .slice (v 2).1 (v 2).2.1 (v 2).2.2, .slice (v 3).1 (v 3).2.1 (v 3).2.2, .slice (v 4).1 (v 4).2.1 (v 4).2.2, .slice (v 5).1 (v 5).2.1 (v 5).2.2, .slice (v 6).1 (v 6).2.1 (v 6).2.2, .slice (v 7).1 (v 7).2.1 (v 7).2.2, .slice (v 8).1 (v 8).2.1 (v 8).2.2, .bool false, .int .i64 cl, .int .i64 k, .bool s.dead] 69)) _ _ (by simp)).out Try.underlying69 rfl (by kernel_rfl)) rfl ?_
    refine h8 _ _ ?_
    rw [HK.out.1, HK.out.2, HS.out]
    exact ⟨⟨cl, rfl, fun a b e => (by cases e)⟩, ((Below.refl _ w).alloc (Nat.le_refl _) _).alloc (by simp) _⟩
  · obtain ⟨rfl, rfl⟩ := fu 0 p hs
    have HK : Hid (killed s = Dk.died s ∧ kb s = true) := Lib.hid (by unfold killed kb; rw [hs]; exact ⟨rfl, rfl⟩)
    have HS := Lib.hid hs
    have hp := (hfo 0 p hs).2
    clear hs fu hfo ok
    simp only [Option.isSome_some, Int.cast_ofNat_Int]
    go_enter Try.func58, Try.ntmps58
    go_wp2_with fail
    refine bodyPost_ret (results_cell_row2 rfl _ _ (w.heap.size + 1) 69 #[.int .i64 (s.cap : Nat), .slice (v 1).1 (v 1).2.1 (v 1).2.2, .slice (v 2).1 (v 2).2.1 (v 2).2.2, .slice (v 3).1 (v 3).2.1 (v 3).2.2, .slice (v 4).1 (v 4).2.1 (v 4).2.2, .slice (v 5).1 (v 5).2.1 (v 5).2.2, .slice (v 6).1 (v 6).2.1 (v 6).2.2, .slice (v 7).1 (v 7).2.1 (v 7).2.2, .slice (v 8).1 (v 8).2.1 (v 8).2.2, .bool true, .int .i64 0, .int .i64 p, .bool true] (0, 0) _ rfl (Blk.new_ (w.alloc (.cells #[.int .i64 (s.cap : Nat), .slice (v 1).1 (v 1).2.1 (v 1).2.2, .slice (v 2).1 (v 2).2.1 (v 2).2.2, .slice (v 3).1 (v 3).2.1 (v 3).2.2, .slice (v 4).1 (v 4).2.1 (v 4).2.2, .slice (v 5).1 (v 5).2.1 (v 5).2.2, .slice (v 6).1 (v 6).2.1 (v 6).2.2, .slice (v 7).1 (v 7).2.1 (v 7).2.2, .slice (v 8).1 (v 8).2.1 (v 8).2.2, .bool true, .int .i64 0, .int .i64 p, .bool true] 69)) _ _ (by simp)).out Try.underlying69 rfl (by kernel_rfl)) rfl ?_
    refine h8 _ _ ?_
    rw [HK.out.1, HK.out.2]
    unfold Dk.died
    rw [HS.out]
    exact ⟨⟨0, rfl, fun a b e => (by cases e; exact ⟨rfl, rfl⟩)⟩, ((Below.refl _ w).alloc (Nat.le_refl _) _).alloc (by simp) _⟩
  · obtain ⟨rfl, rfl⟩ := fu (c + 1) p hs
    have HK : Hid (killed s = Dk.fused s (some (c, p)) ∧ kb s = false) := Lib.hid (by unfold killed kb; rw [hs]; exact ⟨rfl, rfl⟩)
    obtain ⟨hk1, hp1⟩ := hfo (c + 1) p hs
    have u1 : (((c + 1 : Nat) : Int) == 0) = false := by rw [beq_eq_false_iff_ne]; omega
    have u1' : ((c : Int) + 1 == 0) = false := by rw [beq_eq_false_iff_ne]; omega
    have hne : ¬ (c : Int) + 1 = 0 := by omega
    have y1 : IntKind.i64.wrap (((c + 1 : Nat) : Int) - 1) = (c : Int) := by rw [show ((c + 1 : Nat) : Int) - 1 = c by omega]; exact IntWalk.i64_in _ (by omega)
    have y1' : IntKind.i64.wrap ((c : Int) + 1 - 1) = (c : Int) := by rw [show (c : Int) + 1 - 1 = c by omega]; exact IntWalk.i64_in _ (by omega)
    clear hs fu hfo ok
    simp only [Option.isSome_some]
    go_enter Try.func58, Try.ntmps58
    go_wp2_with fail
    refine bodyPost_ret (results_cell_row2 rfl _ _ (w.heap.size + 1) 69 #[.int .i64 (s.cap : Nat), .slice (v 1).1 (v 1).2.1 (v 1).2.2, .slice (v 2).1 (v 2).2.1 (v 2).2.2, .slice (v 3).1 (v 3).2.1 (v 3).2.2, .slice (v 4).1 (v 4).2.1 (v 4).2.2, .slice (v 5).1 (v 5).2.1 (v 5).2.2, .slice (v 6).1 (v 6).2.1 (v 6).2.2, .slice (v 7).1 (v 7).2.1 (v 7).2.2, .slice (v 8).1 (v 8).2.1 (v 8).2.2, .bool true, .int .i64 (c : Int), .int .i64 p, .bool s.dead] (0, 0) _ rfl (Blk.new_ (w.alloc (.cells #[.int .i64 (s.cap : Nat), .slice (v 1).1 (v 1).2.1 (v 1).2.2, .slice (v 2).1 (v 2).2.1 (v 2).2.2, .slice (v 3).1 (v 3).2.1 (v 3).2.2, .slice (v 4).1 (v 4).2.1 (v 4).2.2, .slice (v 5).1 (v 5).2.1 (v 5).2.2, .slice (v 6).1 (v 6).2.1 (v 6).2.2, .slice (v 7).1 (v 7).2.1 (v 7).2.2, .slice (v 8).1 (v 8).2.1 (v 8).2.2, .bool true, .int .i64 (c : Int), .int .i64 p, .bool s.dead] 69)) _ _ (by simp)).out Try.underlying69 rfl (by kernel_rfl)) rfl ?_
    refine h8 _ _ ?_
    rw [HK.out.1, HK.out.2]
    exact ⟨⟨c, rfl, fun a b e => (by cases e; exact ⟨rfl, rfl⟩)⟩, ((Below.refl _ w).alloc (Nat.le_refl _) _).alloc (by simp) _⟩
end
end Go.Proofs.Ytpohefpiidlnjaa.Dr
