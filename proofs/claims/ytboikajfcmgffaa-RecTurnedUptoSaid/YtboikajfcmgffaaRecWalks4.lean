/-
  The walk of rec.each's iterator.
-/
import Derived.RangeFuncNested
import Derived.RangeFuncBound
import Derived.RangeFuncCalls
import Derived.RangeFuncLeaves
import Derived.Shelf.Abstract
import Derived.Shelf.RegionOpen
import Derived.OwnWalkIn
import Derived.TacticsInMore
import Derived.LoopNIn
import Derived.LoopIn
import Derived.Test.YtboikajfcmgffaaRecWalks3
import Derived.Test.YtboikajfcmgffaaRecPlain2
namespace Go.Proofs.Ytboikajfcmgffaa.RecW
open Go.RowKit Go.Shelf Go.Proofs Go.Proofs.Ytboikajfcmgffaa Go.Proofs.Ytboikajfcmgffaa.Wd Go.Proofs.Ytboikajfcmgffaa.CrcW
open Go.Proofs.Ytboikajfcmgffaa.Rec (R takeErr takeEnd takeRec)
attribute [local go_sem] Oper.semAt_some

theorem wpListIn_load_row {F : Fence} {n : Nat} {P : Program} {ops : Array Oper} {rest : List Oper} {o : Oper} {a : Act} {w : World} {Q : Exit → Act → World → Prop} (hgd : o.guard = none) (ty : TypeId) (x : Operand) (ho : o.op = .load ty x)
    (g : Nat) (hx : a.eval x = .pointer (some ⟨g, 0, none⟩)) (t : TypeId) (cs : Array Value) (fr : Nat × Nat) (d : TypeDesc) (hg : w.heap[g]? = some (.cells cs t fr))
    (hu : P.underlying ty = some d) (hd : (match d with | .struct _ | .array _ _ => true | _ => false) = true) (hi : (P.info? ty).map (·.size) = some cs.size)
    (h : wpListIn F n P ops Q rest (a.put o.dst (.agg cs)) w) : wpListIn F n P ops Q (o :: rest) a w := by
  refine wpListIn_plain hgd fun K hK => ?_
  unfold Oper.wpIn
  refine ⟨?_, ?_⟩
  · simp [Oper.about, ho]
  · rw [Oper.semAt_plain F _ _ (by rw [ho]; intro c hc'; cases hc')]
    simp only [execOp, ho, hx, Instr.loadAt, Instr.sureAddr, Sem.run_bind, Sem.run_pure, Result.andThen_ok, run_loadVar_row w g t ty cs fr d hg hu hd hi]
    exact hK _ _ h

theorem wpListIn_put_row {F : Fence} {n : Nat} {P : Program} {ops : Array Oper} {rest : List Oper} {o : Oper} {a : Act} {w : World} {Q : Exit → Act → World → Prop} (hgd : o.guard = none) (hd : o.dst = none) (ty : TypeId) (x v : Operand) (ho : o.op = .store ty x v)
    (g : Nat) (hx : a.eval x = .pointer (some ⟨g, 0, none⟩)) (t : TypeId) (old cs : Array Value) (hv : a.eval v = .agg cs) (hg : Blk w g t old)
    (hi : (P.info? ty).map (·.size) = some cs.size) (hs : old.size = cs.size) (h1 : ∀ u ∈ cs.toList, u.oneCell' = true)
    (h : wpListIn F n P ops Q rest a (w.setRow g cs)) : wpListIn F n P ops Q (o :: rest) a w := by
  have h : wpListIn F n P ops Q rest (a.put o.dst undef) (w.setRow g cs) := by rw [hd]; exact h
  refine wpListIn_plain hgd fun K hK => ?_
  unfold Oper.wpIn
  refine ⟨?_, ?_⟩
  · simp [Oper.about, ho]
  · have hrun := run_storeVar_row (P := P) w g t ty old cs hg hi hs (by rw [Array.all_eq_true']; exact fun u hu => h1 u (by simpa using hu))
    rw [Oper.semAt_plain F _ _ (by rw [ho]; intro c hc'; cases hc')]
    simp only [execOp, ho, hx, hv, Instr.storeAt, Instr.sureAddr, Sem.run_bind, Sem.run_pure, Result.andThen_ok, hrun]
    exact hK _ _ h
theorem own_one {w : World} {base : Nat} {e : TypeId} {size n : Nat} {v : Value} {xs : List Value} (h : w.ownsRow base e size v n xs) : v.oneCell' = true := by
  rcases h.2 with ⟨rfl, _⟩ | ⟨g', cap, cur, rfl, hb, _⟩ <;> rfl
theorem own_below {B : Nat} {e : TypeId} {k : Nat} {v : Value} {n : Nat} {xs : List Value} {w w' : World} (h : w.ownsRow B e k v n xs) (hb : Below w.heap.size w w') : w'.ownsRow B e k v n xs := by
  obtain ⟨h1, h2⟩ := h
  refine ⟨h1, ?_⟩
  rcases h2 with h2 | ⟨g, cap, cur, hv, hg, hh, r⟩
  · exact .inl h2
  · exact .inr ⟨g, cap, cur, hv, hg, (hb.block g (Array.getElem?_eq_some_iff.1 hh).1).trans hh, r⟩
/-- The value that a round gets. -/
def enc (k : UInt8) (v : Value) (at_ : Nat) (e : Nat) : Value := .agg #[.int .u8 (k.toNat : Nat), v, .int .i64 at_, .int .i64 e]

set_option maxRecDepth 100000 in
set_option maxHeartbeats 2000000 in
theorem each1_in (l Bs n₀ : Nat) (A : Option Addr) (cap : Nat) (b : List UInt8) (hbc : b.length ≤ cap) (hreach : b.length ≤ 1000000000000) (J : List R → Nat → World → Prop) (Jx : List R → Nat → Nat → World → Prop)
    (hJ : ∀ pre at_ W W', J pre at_ W → Below W.heap.size W W' → J pre at_ W')
    (hY : ∀ pre at_ (k : UInt8) (v : Value) (d : List UInt8) (m e : Nat) (W : World), J pre at_ W → W.ownsRow n₀ 5 1 v d.length (bs d) → pre.length ≤ b.length → YieldAt Fence.wide 8 Try.prog l #[enc k v m e] W fun en W' =>
      (e = 0 ∧ en = .returned (.bool true) ∧ J (pre ++ [(k, d)]) m W' ∧ Below n₀ W W' ∧ W'.heap[Bs]? = W.heap[Bs]?) ∨ (e ≠ 0 ∧ en = .returned (.bool false) ∧ Jx pre at_ e W'))
    (W : World) (hn₀ : n₀ ≤ W.heap.size) (hBs : Blk W Bs 24 #[.slice A b.length cap]) (hc : Bytes W n₀ A b) (h0 : J [] 0 W) :
    CallsIn Fence.wide 9 Try.prog 31 #[.func (.yield l) #[] #[], .pointer (some ⟨Bs, 0, none⟩)] W fun e W' => (∃ v, e = .returned v) ∧
      ((∃ pre, Rec.all b = (pre, b.length, 0) ∧ J pre b.length W') ∨ (∃ pre at_ x, x ≠ 0 ∧ Rec.all b = (pre, at_, x) ∧ Jx pre at_ x W')) := by
  refine callsIn_of_wp Try.func31 rfl trivial ?_ rfl
  simp only [Try.ntmps31, List.size_toArray, List.length_cons, List.length_nil, Nat.reduceAdd, Nat.reduceSub, Array.replicate_succ, Array.replicate_zero, List.push_toArray, List.append_toArray, List.nil_append, List.cons_append]
  gi_wp2
  gi_loopw [3] (fun i wr => ∃ (k : Nat) (pre : List R), k ≤ b.length ∧ i = .int .i64 k ∧ RowKit.Hid (pre.length ≤ k) ∧ RowKit.Hid (Rec.Reach b pre k) ∧ J pre k wr ∧ Below n₀ W wr ∧ Blk wr Bs 24 #[.slice A b.length cap])
    (fun i _ => b.length - (intOf i).toNat)
  case atStart => exact ⟨0, [], Nat.zero_le _, rfl, Lib.hid (Nat.le_refl _), Lib.hid (Rec.Reach.start b), h0, Below.refl _ _, hBs⟩
  case round =>
    obtain ⟨k, pre, hk, rfl, hpl, hRe, hJs, hnx, hbx⟩ := hrel
    have hcell := hbx.cell 0
    simp only [List.getElem?_toArray, List.getElem?_cons_zero] at hcell
    by_cases hlt : k < b.length
    · obtain ⟨bb, off, rfl, hbb, _⟩ := hc.at_ hlt
      have hcd : Bytes W n₀ (some ⟨bb, off + k, none⟩) (b.drop k) := by
        unfold Bytes; rw [show bs (b.drop k) = (bs b).drop k by simp [bs, List.map_drop]]
        exact Row.drop hc (fun _ _ _ h => by cases h; rfl)
      gi_wp2_with fail
      refine ⟨trivial, ?_⟩
      have hB1 := hnx.size
      have hB1' : n₀ ≤ wr.heap.size := by omega
      refine (callsIn_wide.2 (take_any _ _ (b.drop k) _ (by simp) (by simp; omega) (by simp; omega) _ (by exact (hcd.below hnx).more (by omega)))).mono ?_
      rintro e w1 ⟨kk, d, v, m, rfl, hb1, hown, hok, hbad⟩
      have infoR : (Try.prog.info? 39).map (·.size) = some 2 := by kernel_rfl
      have hzr := Blk.new_ w1 39 #[.int .u8 0, .slice none 0 0] rfl
      have hvo := own_one hown
      have hb2 : Below w1.heap.size w1 ((w1.alloc (.cells #[.int .u8 0, .slice none 0 0] 39)).setRow w1.heap.size #[.int .u8 (kk.toNat : Nat), v]) := below_setRow ((Below.refl _ w1).alloc (Nat.le_refl _) _) (Nat.le_refl _) _
      have hown2 := own_base (own_below hown hb2) hB1'
      have hJ2 := hJ _ _ _ _ hJs (hb1.trans (hb2.mono hb1.size))
      have hn2 : Below n₀ W ((w1.alloc (.cells #[.int .u8 0, .slice none 0 0] 39)).setRow w1.heap.size #[.int .u8 (kk.toNat : Nat), v]) := hnx.trans ((hb1.trans (hb2.mono hb1.size)).mono hB1')
      have hbx2 := hbx.below (hb1.trans (hb2.mono hb1.size)) hbx.lt
      clear hb2 hb1
      by_cases he : takeErr (b.drop k) = 0
      · obtain ⟨hrec, rfl⟩ := hok he
        have hle := (Rec.takeEnd_le he).2.1
        rw [List.length_drop] at hle
        have hw : wrap64 ((k : Int) + (takeEnd (b.drop k) : Nat)) = (k : Int) + (takeEnd (b.drop k) : Nat) := IntWalk.wrap64_in _ (by omega)
        have h9 : 9 ≤ takeEnd (b.drop k) := by unfold takeEnd; omega
        obtain ⟨fn, tmps, assign, body, hy, hR⟩ := hY pre k kk v d (k + takeEnd (b.drop k)) 0 _ hJ2 hown2 (Nat.le_trans hpl.out hk)
        have hRn := Lib.hid (hRe.out.next he)
        rw [← hrec] at hRn
        rw [he]
        generalize takeEnd (b.drop k) = m at *
        clear hok hbad hrec he hRe
        unfold enc at hy
        rw [Int.natCast_add, show ((0 : Nat) : Int) = 0 from rfl] at hy
        gi_wp2_with (first | (refine wpListIn_put_row rfl rfl 39 (.tmp 4) (.tmp 16) rfl w1.heap.size rfl 39 _ #[.int .u8 (kk.toNat : Nat), v] rfl hzr (by rw [infoR]; rfl) rfl (by intro u hu; simp at hu; rcases hu with rfl | rfl; rfl; exact hvo) ?_) | (refine wpListIn_load_row rfl 39 (.tmp 4) rfl w1.heap.size rfl 39 _ _ _ (hzr.row _) Try.underlying39 rfl (by rw [infoR]; rfl) ?_))
        refine hR.mono ?_
        rintro e W3 (⟨_, rfl, hJ3, hk3, hk4⟩ | ⟨h, _⟩)
        · gi_wp2
          go_roundw
          case rel => exact ⟨k + m, _, by omega, by simp, Lib.hid (by have := hpl.out; rw [List.length_append, List.length_singleton]; omega), hRn, hJ3, hn2.trans hk3, hk4.trans hbx2⟩
          case measure => simp [intOf]; omega
        · exact absurd rfl h
      · obtain ⟨rfl, rfl, rfl, rfl⟩ := hbad he
        have u0 : (((0 : UInt8).toNat : Nat) : Int) = 0 := rfl
        simp only [u0] at hJ2 hown2 hn2
        have hw : wrap64 ((k : Int) + ((0 : Nat) : Int)) = (k : Int) := by rw [IntWalk.wrap64_in] <;> omega
        obtain ⟨fn, tmps, assign, body, hy, hR⟩ := hY pre k 0 _ [] k (takeErr (b.drop k)) _ hJ2 hown2 (Nat.le_trans hpl.out hk)
        have hst := Lib.hid (hRe.out.stop hlt he)
        have hne : (((takeErr (b.drop k) : Nat) : Int) != 0) = true := by rw [bne_iff_ne]; omega
        have HE := Lib.hid he
        generalize takeErr (b.drop k) = x at *
        clear hok hbad hRe he
        unfold enc at hy
        rw [u0] at hy
        gi_wp2_with (first | (refine wpListIn_put_row rfl rfl 39 (.tmp 4) (.tmp 16) rfl w1.heap.size rfl 39 _ #[.int .u8 0, .slice none 0 0] rfl hzr (by rw [infoR]; rfl) rfl (by intro u hu; simp at hu; rcases hu with rfl | rfl <;> rfl) ?_) | (refine wpListIn_load_row rfl 39 (.tmp 4) rfl w1.heap.size rfl 39 _ _ _ (hzr.row _) Try.underlying39 rfl (by rw [infoR]; rfl) ?_))
        refine hR.mono ?_
        rintro e W3 (⟨h, _⟩ | ⟨_, rfl, hJ3⟩)
        · exact absurd h HE.out
        · gi_wp2
          refine bodyPost_ret (results_none rfl _ _ _) rfl ?_
          exact ⟨⟨_, rfl⟩, .inr ⟨_, _, _, HE.out, hst.out, hJ3⟩⟩
    · obtain rfl : k = b.length := by omega
      gi_wp2
      go_end0
      exact ⟨⟨_, rfl⟩, .inl ⟨_, hRe.out.full (by omega), hJs⟩⟩
end Go.Proofs.Ytboikajfcmgffaa.RecW
