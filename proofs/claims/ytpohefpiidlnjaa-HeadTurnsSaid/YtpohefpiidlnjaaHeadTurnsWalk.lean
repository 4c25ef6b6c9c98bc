/-
  The walk of HeadTurns.
-/
import Derived.Test.YtpohefpiidlnjaaHeadAwake
import Derived.Test.YtpohefpiidlnjaaHeadPl
import Derived.Test.YtpohefpiidlnjaaHeadArg
import Derived.Test.YtpohefpiidlnjaaHeadBackWalk
namespace Go.Proofs.Ytpohefpiidlnjaa.HdW
set_option linter.unusedVariables false
open Go Go.RowKit Go.Shelf Go.Proofs Go.Proofs.Ytpohefpiidlnjaa Go.Proofs.Ytpohefpiidlnjaa.Wd Go.Proofs.Ytpohefpiidlnjaa.Dk Go.Proofs.Ytpohefpiidlnjaa.Hd

/-- A row of great words. -/
def uv (l : List Nat) : List Value := l.map fun (x : Nat) => Value.int .u64 (x : Int)
theorem uv_length (l : List Nat) : (uv l).length = l.length := by simp [uv]
theorem u64s_arg {w : World} {a : Option Addr} {len cap : Nat} {zs : List Int}
    (h : (a = none ∧ len = 0 ∧ cap = 0 ∧ zs = []) ∨ ∃ x, a = some x ∧ len ≤ cap ∧ cap ≤ maxLen ∧ zs.length = cap ∧ (∀ i, i < zs.length → w.cell? (x.add i) = some (.int .u64 (zs.getD i 0))) ∧ ∀ n ∈ zs, (Lit.int .u64 n).wf = true) :
    ∃ l : List Nat, len = l.length ∧ len ≤ cap ∧ cap ≤ maxLen ∧ (∀ x ∈ l, x < 18446744073709551616) ∧ Row w w.heap.size a (uv l) := by
  rcases h with ⟨rfl, rfl, rfl, rfl⟩ | ⟨x, rfl, h1, h2, h3, h4, h5⟩
  · exact ⟨[], rfl, Nat.le_refl _, by simp [maxLen], fun _ h => by simp at h, Row.nil⟩
  · refine ⟨(zs.take len).map Int.toNat, by simp; omega, h1, h2, fun n hn => ?_, fun j hj => ?_⟩
    · obtain ⟨y, hy, rfl⟩ := List.mem_map.1 hn
      have := bounds_u64 (h5 y (List.mem_of_mem_take hy))
      omega
    · have hj' : j < len := by simp [uv] at hj; omega
      obtain ⟨b, off, spot⟩ := x
      have hc := h4 j (by omega)
      have hspot : spot = none := by
        have h0 := World.cell?_spot (h4 0 (by omega))
        simpa [Addr.add] using h0
      subst hspot
      rw [Addr.add_lit] at hc
      refine ⟨b, off, rfl, block_lt_of_cell hc, ?_⟩
      rw [hc]
      have hg : zs.getD j 0 = zs[j]'(by omega) := by simp [show j < zs.length by omega]
      have hb := bounds_u64 (h5 (zs[j]'(by omega)) (List.getElem_mem _))
      rw [hg]
      simp [uv]
      omega
theorem uv_at {w : World} {B : Nat} {A : Option Addr} {l : List Nat} (h : Row w B A (uv l)) {j : Nat} (hj : j < l.length) : ∃ b off, A = some ⟨b, off, none⟩ ∧ w.cell? ⟨b, off + j, none⟩ = some (.int .u64 (l.getD j 0 : Nat)) := by
  obtain ⟨b, off, e, _, hc⟩ := h j (by rw [uv_length]; exact hj)
  exact ⟨b, off, e, by rw [hc]; simp [uv, hj]⟩
/-- What stands in the slots behind i saves. -/
structure TI (ep : List Nat) (s : DS) (i : Nat) : Prop where
  al : Al s
  last : 1 ≤ i → sh s (i % 2) = Hd.bytes ⟨i, ep.getD (i - 1) 0, 0⟩
  ahead : 2 ≤ i → sh s ((i + 1) % 2) = Hd.bytes ⟨i - 1, ep.getD (i - 2) 0, 0⟩
theorem TI.next {ep : List Nat} {s : DS} {i : Nat} (h : TI ep s i) : TI ep (savedD ⟨i + 1, ep.getD i 0, 0⟩ s) (i + 1) :=
  ⟨saved_al h.al _, fun _ => saved_eq _, fun h2 => by
    rw [show (i + 1 + 1) % 2 = i % 2 by omega, saved_ne _ (two_of i) (by show i % 2 ≠ (i + 1) % 2; omega), h.last (by omega)]
    show _ = Hd.bytes ⟨i, ep.getD (i - 1) 0, 0⟩
    rfl⟩
set_option maxRecDepth 100000 in
set_option maxHeartbeats 4000000 in
theorem turns_walk (A : Option Addr) (n cp : Nat) (ep : List Nat) (hn : n = ep.length) (hnc : n ≤ cp) (hep : ∀ x ∈ ep, x < 18446744073709551616) (which : Bool) (sp : List UInt8) (hsp : sp.length = 32) (w : World) (hI : Row w w.heap.size A (uv ep)) :
    Calls Try.prog 5 #[.slice A n cp, .bool which, .agg (bs sp).toArray] w fun e w' => e = .returned (.bool true) ∧ Below w.heap.size w w' := by
  have q5 := Blk.new_ w 37 (bs sp).toArray rfl
  have hB := (Below.refl w.heap.size w).alloc (Nat.le_refl _) (.cells (bs sp).toArray 37)
  have HSP := Lib.hid hsp
  have HN := Lib.hid hn
  have HEP := Lib.hid hep
  have HI : Hid (∀ W, Below w.heap.size w W → Row W w.heap.size A (uv ep)) := Lib.hid fun W hW => hI.below hW
  clear hsp hn hep hI
  go_enter Try.func5, Try.ntmps5
  go_upto_region 1 with fail
  generalize w.alloc (.cells (bs sp).toArray 37) = w1 at *
  obtain ⟨g5, hg5⟩ : ∃ g, g = w.heap.size := ⟨_, rfl⟩
  rw [← hg5] at q5 ⊢
  have hg5b : w.heap.size ≤ g5 := by omega
  clear hg5
  go_wp2_with fail
  refine Calls.mono (new_any 0 (by decide) w1) ?_
  rintro en w2 ⟨rfl, hA, hb⟩
  obtain ⟨F, hFF⟩ : ∃ F : Nat → Prop, F = (fun j => j = w1.heap.size) := ⟨_, rfl⟩
  obtain ⟨gd, hgd⟩ : ∃ g, g = w1.heap.size := ⟨_, rfl⟩
  have n5 : ¬ F g5 := fun h => by rw [hFF] at h; exact Nat.lt_irrefl _ (h ▸ q5.lt)
  rw [← hFF, ← hgd] at hA
  rw [← hgd]
  have hgb : w.heap.size ≤ gd := by rw [hgd]; exact hB.size
  have q5' := q5.below hb q5.lt
  have hB' := hB.trans (hb.mono hB.size)
  clear q5 hB hb
  have q5 := q5'
  have hB := hB'
  clear q5' hB'
  clear hFF hgd
  go_upto_region 2 with fail
  by_cases hsz : 2 ≤ n ∧ n ≤ 30
  rotate_left
  · clear q5 hA n5 hnc
    by_cases h2 : 2 ≤ n
    · have u1 : ¬ (n : Int) < 2 := by omega
      have u2 : (30 : Int) < (n : Int) := by omega
      clear hsz h2
      go_wp2_with fail
      refine Calls.mono (awake_any _) ?_
      rintro e wz ⟨rfl, hb⟩
      have hB2 := hB.trans (hb.mono hB.size)
      go_wp2_with fail
      go_ret
      exact ⟨rfl, hB2⟩
    · have u1 : (n : Int) < 2 := by omega
      clear hsz h2
      go_wp2_with fail
      refine Calls.mono (awake_any _) ?_
      rintro e wz ⟨rfl, hb⟩
      have hB2 := hB.trans (hb.mono hB.size)
      go_wp2_with fail
      go_ret
      exact ⟨rfl, hB2⟩
  obtain ⟨hn2, hn30⟩ := hsz
  have u1 : ¬ (n : Int) < 2 := by omega
  have u2 : ¬ (30 : Int) < (n : Int) := by omega
  have q9 := Blk.new_ w2 24 #[.int .u64 (0 : Nat), .int .u64 (0 : Nat), .int .u8 0] rfl
  have n9 : ¬ F w2.heap.size := fun h => by have := (hA.lt h).2; omega
  have hg9b := hB.size
  have hb := (Below.refl w2.heap.size w2).alloc (Nat.le_refl _) (.cells #[.int .u64 (0 : Nat), .int .u64 (0 : Nat), .int .u8 0] 24)
  have q5' := q5.below hb q5.lt
  have hA' := hA.below hb
  have hB' := hB.trans (hb.mono hB.size)
  clear q5 hA hB hb
  have q5 := q5'
  have hA := hA'
  have hB := hB'
  clear q5' hA' hB'
  go_upto_region 5 with fail
  clear u1 u2
  have e9 : w2.alloc (.cells #[.int .u64 (0 : Nat), .int .u64 (0 : Nat), .int .u8 0] 24) = w2.alloc (.cells #[.int .u64 0, .int .u64 0, .int .u8 0] 24) := rfl
  rw [e9] at q9 q5 hA hB
  generalize w2.alloc (.cells #[.int .u64 0, .int .u64 0, .int .u8 0] 24) = w3 at *
  generalize w2.heap.size = g9 at *
  clear e9
  have HG9 : Hid (w.heap.size ≤ g9) := Lib.hid hg9b
  clear hg9b
  have hti : TI ep (newD 0) 0 := ⟨⟨rfl, rfl⟩, fun h => absurd h (by decide), fun h => absurd h (by decide)⟩
  go_wp2_with fail
  go_loopw [48] (fun ix wr => ∃ (i E : Nat) (F : Nat → Prop) (s : DS), i ≤ n ∧ ix = .int .i64 i ∧ At wr gd F gd s ∧ Hid (TI ep s i ∧ (1 ≤ i → E = ep.getD (i - 1) 0)) ∧ ¬ F g5 ∧ ¬ F g9 ∧ Blk wr g5 37 (bs sp).toArray ∧ Blk wr g9 24 #[.int .u64 (i : Nat), .int .u64 (E : Nat), .int .u8 0] ∧ Below w.heap.size w wr) (fun ix _ => n - (intOf ix).toNat)
  case atStart => exact ⟨0, 0, F, newD 0, by omega, rfl, hA, Lib.hid ⟨hti, fun h => absurd h (by decide)⟩, n5, n9, q5, q9, hB⟩
  case round =>
    clear q5 q9 hB hA n5 n9 hti
    obtain ⟨i, E, F, s, hi, rfl, hA, HT, n5, n9, q5, q9, hB⟩ := hrel
    by_cases hlt : i < n
    · have hil : i < ep.length := by rw [← HN.out]; exact hlt
      obtain ⟨b, off, rfl, hc⟩ := uv_at (HI.out _ hB) hil
      obtain ⟨x, hx⟩ : ∃ x, x = ep.getD i 0 := ⟨_, rfl⟩
      rw [← hx] at hc
      have hx64 : x < 18446744073709551616 := by rw [hx]; exact HEP.out _ (by simp [List.getD_eq_getElem?_getD, hil])
      have HX := Lib.hid hx
      have i1 : (0 : Int) ≤ (i : Int) := by omega
      have i2 : (i : Int) < (n : Int) := by omega
      clear hx
      have f0 := Blk.at_ q9 0 (v := .int .u64 (i : Nat)) rfl
      have f1 := Blk.at_ q9 1 (v := .int .u64 (E : Nat)) rfl
      have f2 := Blk.at_ q9 2 (v := .int .u8 0) rfl
      have ff := q9.frozen
      have q9' := q9.set_ 1 (.int .u64 (x : Nat))
      have hfs : Fr (fun j => j = g9) wr (wr.setCell ⟨g9, 1, none⟩ (.int .u64 (x : Nat))) := Fr.setCell (F := fun j => j = g9) (p := ⟨g9, 1, none⟩) (Fr.refl _ _) (.inl rfl) _
      have hA' := hA.fr hfs (fun k hk e => n9 (e ▸ hk))
      have hne : g5 ≠ g9 := q5.ne_ q9 (by decide)
      have q5' := q5.far (p := ⟨g9, 1, none⟩) hne (.int .u64 (x : Nat))
      have hg9b := hB.size
      have hB' := hB.trans (hfs.below hB.size fun k hk => by rw [hk]; exact HG9.out)
      clear q9 hA hfs hne q5 hB hg9b
      have q9 : Blk (wr.setCell ⟨g9, 1, none⟩ (.int .u64 (x : Nat))) g9 24 #[.int .u64 (i : Nat), .int .u64 (x : Nat), .int .u8 0] := q9'
      have Q := Lib.hid (And.intro q9 (And.intro q5' (And.intro hA' hB')))
      clear q9' q9 q5' hA' hB'
      go_upto_region 9 with fail
      clear f0 f1 f2 ff hc
      obtain ⟨q9, q5, hA, hB⟩ := Q.out
      clear Q
      generalize wr.setCell ⟨g9, 1, none⟩ (.int .u64 (x : Nat)) = w4 at *
      obtain ⟨j, hj⟩ : ∃ j, j = i + 1 := ⟨_, rfl⟩
      have hr : right ⟨j, x, 0⟩ = true := by unfold right; simp; omega
      have hS := save_any hA i x 0 j (by omega) (by omega) hx64 (by decide)
      rw [save_al HT.out.1.al hr] at hS
      simp only [hv] at hS
      have HT' : Hid (TI ep (savedD ⟨j, x, 0⟩ s) j ∧ (1 ≤ j → x = ep.getD (j - 1) 0)) := Lib.hid ⟨by rw [hj, HX.out]; exact HT.out.1.next, fun _ => by rw [hj, HX.out]; rfl⟩
      have hjn : j ≤ n := by omega
      have HJ := Lib.hid hj
      clear hr HX HT hx64 hil hj
      have f0 := Blk.at_ q9 0 (v := .int .u64 (i : Nat)) rfl
      have f1 := Blk.at_ q9 1 (v := .int .u64 (x : Nat)) rfl
      have f2 := Blk.at_ q9 2 (v := .int .u8 0) rfl
      go_wp2_with fail
      refine Calls.mono hS ?_
      rintro en w5 ⟨rfl, F2, hA2, hfr, hF2⟩
      clear hS f0 f1 f2
      have q5' := q5.fr hfr n5
      have n5' : ¬ F2 g5 := fun h => (hF2 _ h).elim n5 (fun h => by have := q5.lt; omega)
      have q9' := q9.fr hfr n9
      have n9' : ¬ F2 g9 := fun h => (hF2 _ h).elim n9 (fun h => by have := q9.lt; omega)
      have hA' : At w5 gd F2 gd (savedD ⟨j, x, 0⟩ s) := hA2
      have hB' := hB.trans (hfr.below hB.size fun k hk => Nat.le_trans hgb (hA.lt hk).1)
      clear q5 n5 q9 n9 hA hB hfr hF2 hA2
      have q5 := q5'
      have n5 := n5'
      have q9 := q9'
      have n9 := n9'
      have hA := hA'
      have hB := hB'
      clear q5' n5' q9' n9' hA' hB'
      have q12 := Blk.new_ w5 24 #[.int .u64 (j : Nat), .int .u64 (x : Nat), .int .u8 0] rfl
      have hne : g9 ≠ w5.heap.size := Nat.ne_of_lt q9.lt
      have hb := (Below.refl w5.heap.size w5).alloc (Nat.le_refl _) (.cells #[.int .u64 (j : Nat), .int .u64 (x : Nat), .int .u8 0] 24)
      have q5' := q5.below hb q5.lt
      have q9' := q9.below hb q9.lt
      have hA' := hA.below hb
      have hB' := hB.trans (hb.mono hB.size)
      clear q5 q9 hA hB hb
      have q5 := q5'
      have q9 := q9'
      have hA := hA'
      have hB := hB'
      clear q5' q9' hA' hB'
      go_upto_region 10 with fail
      generalize w5.alloc (.cells #[.int .u64 (j : Nat), .int .u64 (x : Nat), .int .u8 0] 24) = w6 at *
      generalize w5.heap.size = g12 at *
      have f0 := Blk.at_ q12 0 (v := .int .u64 (j : Nat)) rfl
      have f1 := Blk.at_ q12 1 (v := .int .u64 (x : Nat)) rfl
      have f2 := Blk.at_ q12 2 (v := .int .u8 0) rfl
      have z0 := Blk.at_ q9 0 (v := .int .u64 (i : Nat)) rfl
      have z1 := Blk.at_ q9 1 (v := .int .u64 (x : Nat)) rfl
      have z2 := Blk.at_ q9 2 (v := .int .u8 0) rfl
      have zf := q9.frozen
      have q9' := ((q9.set_ 0 (.int .u64 (j : Nat))).set_ 1 (.int .u64 (x : Nat))).set_ 2 (.int .u8 0)
      have hfs : Fr (fun j => j = g9) w6 (((w6.setCell ⟨g9, 0, none⟩ (.int .u64 (j : Nat))).setCell ⟨g9, 1, none⟩ (.int .u64 (x : Nat))).setCell ⟨g9, 2, none⟩ (.int .u8 0)) := ((Fr.setCell (F := fun j => j = g9) (p := ⟨g9, 0, none⟩) (Fr.refl _ _) (.inl rfl) _).setCell (p := ⟨g9, 1, none⟩) (.inl rfl) _).setCell (p := ⟨g9, 2, none⟩) (.inl rfl) _
      have hA' := hA.fr hfs (fun k hk e => n9 (e ▸ hk))
      have hne5 : g5 ≠ g9 := q5.ne_ q9 (by decide)
      have q5' := q5.fr hfs hne5
      have hB' := hB.trans (hfs.below hB.size fun k hk => by rw [hk]; exact HG9.out)
      have Q := Lib.hid (And.intro q9' (And.intro q5' (And.intro hA' hB')))
      clear q9' q9 q5' q5 hA' hA hB' hB hfs hne5 q12 hne
      go_wp2_with fail
      go_roundw
      case rel => exact ⟨j, x, F2, _, hjn, by rw [HJ.out]; go_num, Q.out.2.2.1, HT', n5, n9, Q.out.2.1, Q.out.1, Q.out.2.2.2⟩
      case measure => simp [intOf]; omega
    · obtain rfl : n = i := by omega
      obtain ⟨ht, hE⟩ := HT.out
      have hE := hE (by omega)
      obtain ⟨p, hp⟩ : ∃ p, p = n - 1 := ⟨_, rfl⟩
      obtain ⟨q, hq⟩ : ∃ q, q = n - 2 := ⟨_, rfl⟩
      obtain ⟨e1, he1⟩ : ∃ e, e = ep.getD (n - 2) 0 := ⟨_, rfl⟩
      obtain ⟨m1, hm1⟩ : ∃ m, m = n % 2 := ⟨_, rfl⟩
      obtain ⟨m2, hm2⟩ : ∃ m, m = (n + 1) % 2 := ⟨_, rfl⟩
      have lt1 : m1 < 2 := by omega
      have lt2 : m2 < 2 := by omega
      have H1 : Hid (sh s m1 = Hd.bytes ⟨n, E, 0⟩) := Lib.hid (by rw [hm1, hE]; exact ht.last (by omega))
      have H2 : Hid (sh s m2 = Hd.bytes ⟨p, e1, 0⟩) := Lib.hid (by rw [hm2, hp, he1]; exact ht.ahead (by omega))
      have HAL := Lib.hid ht.al
      have wE : E < 18446744073709551616 := by
        rw [hE]; exact HEP.out _ (by have := HN.out; simp [List.getD_eq_getElem?_getD, show n - 1 < ep.length by omega])
      have wE1 : e1 < 18446744073709551616 := by
        rw [he1]; exact HEP.out _ (by have := HN.out; simp [List.getD_eq_getElem?_getD, show n - 2 < ep.length by omega])
      have wf1 : Wf ⟨n, E, 0⟩ := ⟨by show n < _; omega, wE, by show (0 : Nat) < 256; decide⟩
      have wf2 : Wf ⟨p, e1, 0⟩ := ⟨by show p < _; omega, wE1, by show (0 : Nat) < 256; decide⟩
      have r1 : right ⟨n, E, 0⟩ = true := by unfold right; simp; omega
      have r2 : right ⟨p, e1, 0⟩ = true := by unfold right; simp; omega
      obtain ⟨b, off, rfl, hc⟩ := uv_at (j := q) (HI.out _ hB) (by rw [← HN.out]; omega)
      rw [hq, ← he1, ← hq] at hc
      have HC : Hid (∀ W, Below w.heap.size w W → W.cell? ⟨b, off + q, none⟩ = some (.int .u64 (e1 : Nat))) := Lib.hid fun W hW => by
        obtain ⟨b', off', e', hc'⟩ := uv_at (j := q) (HI.out _ hW) (by rw [← HN.out]; omega)
        cases e'
        rw [hc', hq, ← he1]
      have W1 : Hid (Wf ⟨n, E, 0⟩ ∧ right ⟨n, E, 0⟩ = true) := Lib.hid ⟨wf1, r1⟩
      have W2 : Hid (Wf ⟨p, e1, 0⟩ ∧ right ⟨p, e1, 0⟩ = true) := Lib.hid ⟨wf2, r2⟩
      have HM : Hid (m1 = n % 2 ∧ m2 = (n + 1) % 2 ∧ p + 1 = n ∧ q + 2 = n) := Lib.hid ⟨hm1, hm2, by omega, by omega⟩
      have t1 : (n : Int).tmod 2 = (m1 : Int) := by rw [Int.tmod_eq_emod_of_nonneg (Int.natCast_nonneg _)]; omega
      have y1 : IntKind.i64.wrap (m1 : Int) = (m1 : Int) := IntWalk.i64_in _ (by omega)
      have t2 : ((n : Int) + 1).tmod 2 = (m2 : Int) := by rw [Int.tmod_eq_emod_of_nonneg (by omega)]; omega
      have y2 : IntKind.i64.wrap ((n : Int) + 1) = (n : Int) + 1 := IntWalk.i64_in _ (by omega)
      have y3 : IntKind.i64.wrap (m2 : Int) = (m2 : Int) := IntWalk.i64_in _ (by omega)
      have y5 : IntKind.i64.wrap ((n : Int) - 1) = (p : Int) := by rw [show (n : Int) - 1 = p by omega]; exact IntWalk.i64_in _ (by omega)
      have y6 : IntKind.u64.wrap (p : Int) = (p : Int) := by rw [IntKind.wrap_u64]; omega
      have y7 : IntKind.i64.wrap ((n : Int) - 2) = (q : Int) := by rw [show (n : Int) - 2 = q by omega]; exact IntWalk.i64_in _ (by omega)
      have i1 : (0 : Int) ≤ (q : Int) := by omega
      have i2 : (q : Int) < (n : Int) := by omega
      have K1 := Lib.hid t2
      have K2 := Lib.hid y2
      have K3 := Lib.hid y3
      have K5 := Lib.hid y5
      have K6 := Lib.hid y6
      have K7 := Lib.hid y7
      have X1 := Lib.hid t1
      have X2 := Lib.hid y1
      have K1b := Lib.hid t2
      have K2b := Lib.hid y2
      have K3b := Lib.hid y3
      clear ht hE hp hq he1 hm1 hm2 wE wE1 wf1 wf2 r1 r2 hc HT t2 y2 y3 y5 y6 y7 hi hlt
      have hH := head_any hA (m1 : Nat)
      rw [hd_sh HAL.out.dead lt1, H1.out] at hH
      go_wp2_with fail
      refine Calls.mono hH ?_
      rintro e x1 ⟨Ah, ch, rfl, hlh, hmh, hJh, hb, -⟩
      clear hH
      have q5' := q5.below hb q5.lt
      have q9' := q9.below hb q9.lt
      have hA' := hA.below hb
      have hB' := hB.trans (hb.mono hB.size)
      clear q5 q9 hA hB hb
      have q5 := q5'
      have q9 := q9'
      have hA := hA'
      have hB := hB'
      clear q5' q9' hA' hB'
      rw [bytes_length] at hlh ⊢
      have hRd := read_any Ah ch (Hd.bytes ⟨n, E, 0⟩) 32 rfl hlh hmh x1 hJh
      rw [readR_bytes W1.out.1 W1.out.2] at hRd
      simp only [hv] at hRd
      clear hJh hmh
      go_wp2_with fail
      refine Calls.mono hRd ?_
      rintro e x2 ⟨rfl, hb⟩
      clear hRd hlh
      have q5' := q5.below hb q5.lt
      have q9' := q9.below hb q9.lt
      have hA' := hA.below hb
      have hB' := hB.trans (hb.mono hB.size)
      clear q5 q9 hA hB hb
      have q5 := q5'
      have q9 := q9'
      have hA := hA'
      have hB := hB'
      clear q5' q9' hA' hB'
      have q15 := Blk.new_ x2 24 #[.int .u64 (n : Nat), .int .u64 (E : Nat), .int .u8 0] rfl
      have nq15 : ¬ F x2.heap.size := fun h => by have := (hA.lt h).2; omega
      have hb := (Below.refl x2.heap.size x2).alloc (Nat.le_refl _) (.cells #[.int .u64 (n : Nat), .int .u64 (E : Nat), .int .u8 0] 24)
      have q5' := q5.below hb q5.lt
      have q9' := q9.below hb q9.lt
      have hA' := hA.below hb
      have hB' := hB.trans (hb.mono hB.size)
      clear q5 q9 hA hB hb
      have q5 := q5'
      have q9 := q9'
      have hA := hA'
      have hB := hB'
      clear q5' q9' hA' hB'
      go_upto_region 16 with fail
      generalize x2.alloc (.cells #[.int .u64 (n : Nat), .int .u64 (E : Nat), .int .u8 0] 24) = x3 at *
      generalize x2.heap.size = g15 at *
      clear t1 y1
      have t2 := K1.out
      have y2 := K2.out
      have y3 := K3.out
      clear K1 K2 K3
      have hH := head_any hA (m2 : Nat)
      rw [hd_sh HAL.out.dead lt2, H2.out] at hH
      go_wp2_with fail
      refine Calls.mono hH ?_
      rintro e x4 ⟨Ah, ch, rfl, hlh, hmh, hJh, hb, -⟩
      clear hH
      have q5' := q5.below hb q5.lt
      have q9' := q9.below hb q9.lt
      have q15' := q15.below hb q15.lt
      have hA' := hA.below hb
      have hB' := hB.trans (hb.mono hB.size)
      clear q5 q9 q15 hA hB hb
      have q5 := q5'
      have q9 := q9'
      have q15 := q15'
      have hA := hA'
      have hB := hB'
      clear q5' q9' q15' hA' hB'
      rw [bytes_length] at hlh ⊢
      have hRd := read_any Ah ch (Hd.bytes ⟨p, e1, 0⟩) 32 rfl hlh hmh x4 hJh
      rw [readR_bytes W2.out.1 W2.out.2] at hRd
      simp only [hv] at hRd
      clear hJh hmh
      go_wp2_with fail
      refine Calls.mono hRd ?_
      rintro e x5 ⟨rfl, hb⟩
      clear hRd hlh
      have q5' := q5.below hb q5.lt
      have q9' := q9.below hb q9.lt
      have q15' := q15.below hb q15.lt
      have hA' := hA.below hb
      have hB' := hB.trans (hb.mono hB.size)
      clear q5 q9 q15 hA hB hb
      have q5 := q5'
      have q9 := q9'
      have q15 := q15'
      have hA := hA'
      have hB := hB'
      clear q5' q9' q15' hA' hB'
      have q17 := Blk.new_ x5 24 #[.int .u64 (p : Nat), .int .u64 (e1 : Nat), .int .u8 0] rfl
      have nq17 : ¬ F x5.heap.size := fun h => by have := (hA.lt h).2; omega
      have hb := (Below.refl x5.heap.size x5).alloc (Nat.le_refl _) (.cells #[.int .u64 (p : Nat), .int .u64 (e1 : Nat), .int .u8 0] 24)
      have q5' := q5.below hb q5.lt
      have q9' := q9.below hb q9.lt
      have q15' := q15.below hb q15.lt
      have hA' := hA.below hb
      have hB' := hB.trans (hb.mono hB.size)
      clear q5 q9 q15 hA hB hb
      have q5 := q5'
      have q9 := q9'
      have q15 := q15'
      have hA := hA'
      have hB := hB'
      clear q5' q9' q15' hA' hB'
      go_upto_region 17 with fail
      generalize x5.alloc (.cells #[.int .u64 (p : Nat), .int .u64 (e1 : Nat), .int .u8 0] 24) = x6 at *
      generalize x5.heap.size = g17 at *
      clear t2 y2 y3
      have y5 := K5.out
      have y6 := K6.out
      have y7 := K7.out
      clear K5 K6 K7
      refine wp_region_heldG [] (fun _ W => Blk W g15 24 #[.int .u64 (n : Nat), .int .u64 (E : Nat), .int .u8 0] ∧ Blk W g9 24 #[.int .u64 (n : Nat), .int .u64 (E : Nat), .int .u8 0] ∧ Blk W g17 24 #[.int .u64 (p : Nat), .int .u64 (e1 : Nat), .int .u8 0] ∧ W.cell? ⟨b, off + q, none⟩ = some (.int .u64 (e1 : Nat))) (by kernel_rfl) ?_
      change wpAnyG _ _ _ _ _ _ 29 _ _ (World.drew _)
      have hS : Blk x6.drew g15 24 #[.int .u64 (n : Nat), .int .u64 (E : Nat), .int .u8 0] ∧ Blk x6.drew g9 24 #[.int .u64 (n : Nat), .int .u64 (E : Nat), .int .u8 0] ∧ Blk x6.drew g17 24 #[.int .u64 (p : Nat), .int .u64 (e1 : Nat), .int .u8 0] ∧ x6.drew.cell? ⟨b, off + q, none⟩ = some (.int .u64 (e1 : Nat)) := ⟨q15, q9, q17, HC.out _ hB.drew⟩
      have hb := (Below.refl x6.heap.size x6).drew
      have q5' := q5.below hb q5.lt
      have q9' := q9.below hb q9.lt
      have q15' := q15.below hb q15.lt
      have q17' := q17.below hb q17.lt
      have hA' := hA.below hb
      have hB' := hB.trans (hb.mono hB.size)
      clear q5 q9 q15 q17 hA hB hb
      have q5 := q5'
      have q9 := q9'
      have q15 := q15'
      have q17 := q17'
      have hA := hA'
      have hB := hB'
      clear q5' q9' q15' q17' hA' hB'
      generalize x6.drew = x7 at *
      -- take0 take1 take2 take3G take4G take5 take6 take7G take8G take9G take10 take11 take12G take13G take14G take15G take16G take17G take18 take19 take20G take21G take22G take23G take24G take25G take26G take27G take28 done
      refine g_take (i := 0) rfl rfl (by kernel_rfl) (by kernel_rfl) (by kernel_rfl) (by kernel_rfl) (by kernel_rfl) (fun _ _ _ h => h) hS (fun L W hL hW => by go_simp; rfl) ?_
      refine g_take (i := 1) rfl rfl (by kernel_rfl) (by kernel_rfl) (by kernel_rfl) (by kernel_rfl) (by kernel_rfl) (fun _ _ _ h => h) hS (fun L W hL hW => by go_simp; rfl) ?_
      refine g_take (i := 2) rfl rfl (by kernel_rfl) (by kernel_rfl) (by kernel_rfl) (by kernel_rfl) (by kernel_rfl) (fun _ _ _ h => h) hS (fun L W hL hW => by go_simp; rfl) ?_
      refine g_takeG (i := 3) rfl (by simp only [Region.wanted, yielded]; go_simp) (by kernel_rfl) (by kernel_rfl) (by kernel_rfl) (by kernel_rfl) (by kernel_rfl) (fun _ _ _ h => h) hS (fun L W hL hW => by go_simp; rfl) ?_
      refine g_takeG (i := 4) rfl (by simp only [Region.wanted, yielded]; go_simp) (by kernel_rfl) (by kernel_rfl) (by kernel_rfl) (by kernel_rfl) (by kernel_rfl) (fun _ _ _ h => h) hS (fun L W hL hW => by go_simp; rfl) ?_
      refine g_take (i := 5) rfl rfl (by kernel_rfl) (by kernel_rfl) (by kernel_rfl) (by kernel_rfl) (by kernel_rfl) (fun _ _ _ h => h) hS (fun L W hL hW => by go_simp; rfl) ?_
      refine g_take (i := 6) rfl rfl (by kernel_rfl) (by kernel_rfl) (by kernel_rfl) (by kernel_rfl) (by kernel_rfl) (fun _ _ _ h => h) hS (fun L W hL hW => by go_simp; rfl) ?_
      refine g_takeG (i := 7) rfl (by simp only [Region.wanted, yielded]; go_simp) (by kernel_rfl) (by kernel_rfl) (by kernel_rfl) (by kernel_rfl) (by kernel_rfl) (fun _ _ _ h => h) hS (fun L W hL hW => by have hw1 := hW.1; have hw2 := hW.2.1; have hw3 := hW.2.2.1; have hw4 := hW.2.2.2; have ra0 := Blk.at_ hw1 0 (v := .int .u64 (n : Nat)) rfl; have ra1 := Blk.at_ hw1 1 (v := .int .u64 (E : Nat)) rfl; have ra2 := Blk.at_ hw1 2 (v := .int .u8 0) rfl; have rb0 := Blk.at_ hw2 0 (v := .int .u64 (n : Nat)) rfl; have rb1 := Blk.at_ hw2 1 (v := .int .u64 (E : Nat)) rfl; have rb2 := Blk.at_ hw2 2 (v := .int .u8 0) rfl; have rc0 := Blk.at_ hw3 0 (v := .int .u64 (p : Nat)) rfl; have rc1 := Blk.at_ hw3 1 (v := .int .u64 (e1 : Nat)) rfl; have rc2 := Blk.at_ hw3 2 (v := .int .u8 0) rfl; go_simp; rfl) ?_
      refine g_takeG (i := 8) rfl (by simp only [Region.wanted, yielded]; go_simp) (by kernel_rfl) (by kernel_rfl) (by kernel_rfl) (by kernel_rfl) (by kernel_rfl) (fun _ _ _ h => h) hS (fun L W hL hW => by have hw1 := hW.1; have hw2 := hW.2.1; have hw3 := hW.2.2.1; have hw4 := hW.2.2.2; have ra0 := Blk.at_ hw1 0 (v := .int .u64 (n : Nat)) rfl; have ra1 := Blk.at_ hw1 1 (v := .int .u64 (E : Nat)) rfl; have ra2 := Blk.at_ hw1 2 (v := .int .u8 0) rfl; have rb0 := Blk.at_ hw2 0 (v := .int .u64 (n : Nat)) rfl; have rb1 := Blk.at_ hw2 1 (v := .int .u64 (E : Nat)) rfl; have rb2 := Blk.at_ hw2 2 (v := .int .u8 0) rfl; have rc0 := Blk.at_ hw3 0 (v := .int .u64 (p : Nat)) rfl; have rc1 := Blk.at_ hw3 1 (v := .int .u64 (e1 : Nat)) rfl; have rc2 := Blk.at_ hw3 2 (v := .int .u8 0) rfl; go_simp; rfl) ?_
      refine g_takeG (i := 9) rfl (by simp only [Region.wanted, yielded]; go_simp) (by kernel_rfl) (by kernel_rfl) (by kernel_rfl) (by kernel_rfl) (by kernel_rfl) (fun _ _ _ h => h) hS (fun L W hL hW => by go_simp; rfl) ?_
      refine g_take (i := 10) rfl rfl (by kernel_rfl) (by kernel_rfl) (by kernel_rfl) (by kernel_rfl) (by kernel_rfl) (fun _ _ _ h => h) hS (fun L W hL hW => by go_simp; rfl) ?_
      refine g_take (i := 11) rfl rfl (by kernel_rfl) (by kernel_rfl) (by kernel_rfl) (by kernel_rfl) (by kernel_rfl) (fun _ _ _ h => h) hS (fun L W hL hW => by go_simp; rfl) ?_
      refine g_takeG (i := 12) rfl (by simp only [Region.wanted, yielded]; go_simp) (by kernel_rfl) (by kernel_rfl) (by kernel_rfl) (by kernel_rfl) (by kernel_rfl) (fun _ _ _ h => h) hS (fun L W hL hW => by go_simp; rfl) ?_
      refine g_takeG (i := 13) rfl (by simp only [Region.wanted, yielded]; go_simp) (by kernel_rfl) (by kernel_rfl) (by kernel_rfl) (by kernel_rfl) (by kernel_rfl) (fun _ _ _ h => h) hS (fun L W hL hW => by have hw1 := hW.1; have hw2 := hW.2.1; have hw3 := hW.2.2.1; have hw4 := hW.2.2.2; have ra0 := Blk.at_ hw1 0 (v := .int .u64 (n : Nat)) rfl; have ra1 := Blk.at_ hw1 1 (v := .int .u64 (E : Nat)) rfl; have ra2 := Blk.at_ hw1 2 (v := .int .u8 0) rfl; have rb0 := Blk.at_ hw2 0 (v := .int .u64 (n : Nat)) rfl; have rb1 := Blk.at_ hw2 1 (v := .int .u64 (E : Nat)) rfl; have rb2 := Blk.at_ hw2 2 (v := .int .u8 0) rfl; have rc0 := Blk.at_ hw3 0 (v := .int .u64 (p : Nat)) rfl; have rc1 := Blk.at_ hw3 1 (v := .int .u64 (e1 : Nat)) rfl; have rc2 := Blk.at_ hw3 2 (v := .int .u8 0) rfl; go_simp; rfl) ?_
      refine g_takeG (i := 14) rfl (by simp only [Region.wanted, yielded]; go_simp) (by kernel_rfl) (by kernel_rfl) (by kernel_rfl) (by kernel_rfl) (by kernel_rfl) (fun _ _ _ h => h) hS (fun L W hL hW => by go_simp; rfl) ?_
      refine g_takeG (i := 15) rfl (by simp only [Region.wanted, yielded]; go_simp) (by kernel_rfl) (by kernel_rfl) (by kernel_rfl) (by kernel_rfl) (by kernel_rfl) (fun _ _ _ h => h) hS (fun L W hL hW => by go_simp; rfl) ?_
      refine g_takeG (i := 16) rfl (by simp only [Region.wanted, yielded]; go_simp) (by kernel_rfl) (by kernel_rfl) (by kernel_rfl) (by kernel_rfl) (by kernel_rfl) (fun _ _ _ h => h) hS (fun L W hL hW => by go_simp; rfl) ?_
      refine g_takeG (i := 17) rfl (by simp only [Region.wanted, yielded]; go_simp) (by kernel_rfl) (by kernel_rfl) (by kernel_rfl) (by kernel_rfl) (by kernel_rfl) (fun _ _ _ h => h) hS (fun L W hL hW => by go_simp; rfl) ?_
      refine g_take (i := 18) rfl rfl (by kernel_rfl) (by kernel_rfl) (by kernel_rfl) (by kernel_rfl) (by kernel_rfl) (fun _ _ _ h => h) hS (fun L W hL hW => by go_simp; rfl) ?_
      refine g_take (i := 19) rfl rfl (by kernel_rfl) (by kernel_rfl) (by kernel_rfl) (by kernel_rfl) (by kernel_rfl) (fun _ _ _ h => h) hS (fun L W hL hW => by go_simp; rfl) ?_
      refine g_takeG (i := 20) rfl (by simp only [Region.wanted, yielded]; go_simp) (by kernel_rfl) (by kernel_rfl) (by kernel_rfl) (by kernel_rfl) (by kernel_rfl) (fun _ _ _ h => h) hS (fun L W hL hW => by go_simp; rfl) ?_
      refine g_takeG (i := 21) rfl (by simp only [Region.wanted, yielded]; go_simp) (by kernel_rfl) (by kernel_rfl) (by kernel_rfl) (by kernel_rfl) (by kernel_rfl) (fun _ _ _ h => h) hS (fun L W hL hW => by have hw1 := hW.1; have hw2 := hW.2.1; have hw3 := hW.2.2.1; have hw4 := hW.2.2.2; have ra0 := Blk.at_ hw1 0 (v := .int .u64 (n : Nat)) rfl; have ra1 := Blk.at_ hw1 1 (v := .int .u64 (E : Nat)) rfl; have ra2 := Blk.at_ hw1 2 (v := .int .u8 0) rfl; have rb0 := Blk.at_ hw2 0 (v := .int .u64 (n : Nat)) rfl; have rb1 := Blk.at_ hw2 1 (v := .int .u64 (E : Nat)) rfl; have rb2 := Blk.at_ hw2 2 (v := .int .u8 0) rfl; have rc0 := Blk.at_ hw3 0 (v := .int .u64 (p : Nat)) rfl; have rc1 := Blk.at_ hw3 1 (v := .int .u64 (e1 : Nat)) rfl; have rc2 := Blk.at_ hw3 2 (v := .int .u8 0) rfl; go_simp; rfl) ?_
      refine g_takeG (i := 22) rfl (by simp only [Region.wanted, yielded]; go_simp) (by kernel_rfl) (by kernel_rfl) (by kernel_rfl) (by kernel_rfl) (by kernel_rfl) (fun _ _ _ h => h) hS (fun L W hL hW => by go_simp; rfl) ?_
      refine g_takeG (i := 23) rfl (by simp only [Region.wanted, yielded]; go_simp) (by kernel_rfl) (by kernel_rfl) (by kernel_rfl) (by kernel_rfl) (by kernel_rfl) (fun _ _ _ h => h) hS (fun L W hL hW => by go_simp; rfl) ?_
      refine g_takeG (i := 24) rfl (by simp only [Region.wanted, yielded]; go_simp) (by kernel_rfl) (by kernel_rfl) (by kernel_rfl) (by kernel_rfl) (by kernel_rfl) (fun _ _ _ h => h) hS (fun L W hL hW => by go_simp; rfl) ?_
      refine g_takeG (i := 25) rfl (by simp only [Region.wanted, yielded]; go_simp) (by kernel_rfl) (by kernel_rfl) (by kernel_rfl) (by kernel_rfl) (by kernel_rfl) (fun _ _ _ h => h) hS (fun L W hL hW => by go_simp; rfl) ?_
      refine g_takeG (i := 26) rfl (by simp only [Region.wanted, yielded]; go_simp) (by kernel_rfl) (by kernel_rfl) (by kernel_rfl) (by kernel_rfl) (by kernel_rfl) (fun _ _ _ h => h) hS (fun L W hL hW => by have hw1 := hW.1; have hw2 := hW.2.1; have hw3 := hW.2.2.1; have hw4 := hW.2.2.2; have ra0 := Blk.at_ hw1 0 (v := .int .u64 (n : Nat)) rfl; have ra1 := Blk.at_ hw1 1 (v := .int .u64 (E : Nat)) rfl; have ra2 := Blk.at_ hw1 2 (v := .int .u8 0) rfl; have rb0 := Blk.at_ hw2 0 (v := .int .u64 (n : Nat)) rfl; have rb1 := Blk.at_ hw2 1 (v := .int .u64 (E : Nat)) rfl; have rb2 := Blk.at_ hw2 2 (v := .int .u8 0) rfl; have rc0 := Blk.at_ hw3 0 (v := .int .u64 (p : Nat)) rfl; have rc1 := Blk.at_ hw3 1 (v := .int .u64 (e1 : Nat)) rfl; have rc2 := Blk.at_ hw3 2 (v := .int .u8 0) rfl; go_simp; rfl) ?_
      refine g_takeG (i := 27) rfl (by simp only [Region.wanted, yielded]; go_simp) (by kernel_rfl) (by kernel_rfl) (by kernel_rfl) (by kernel_rfl) (by kernel_rfl) (fun _ _ _ h => h) hS (fun L W hL hW => by go_simp; rfl) ?_
      refine g_take (i := 28) rfl rfl (by kernel_rfl) (by kernel_rfl) (by kernel_rfl) (by kernel_rfl) (by kernel_rfl) (fun _ _ _ h => h) hS (fun L W hL hW => by go_simp; rfl) ?_
      refine wpAnyG_done (by kernel_rfl) ?_ _
      clear hS
      go_simp
      clear y5 y6 y7 i1 i2
      have t1 := X1.out
      have y1 := X2.out
      go_upto_region 19 with fail
      clear q9 n9
      have hB7 := hB
      go_cut [19, 20] (fun v u wx => v = .int .i64 m1 ∧ ∃ g, u = .pointer (some ⟨g, 0, none⟩) ∧ x7.heap.size ≤ g ∧ Blk wx g 24 #[.int .u64 (p : Nat), .int .u64 (e1 : Nat), .int .u8 0] ∧ Below x7.heap.size x7 wx)
      case first =>
        clear H1 H2 HAL W1 W2 HM HC
        refine wp_region_heldG [] (fun _ W => Blk W g17 24 #[.int .u64 (p : Nat), .int .u64 (e1 : Nat), .int .u8 0]) (by kernel_rfl) ?_
        change wpAnyG _ _ _ _ _ _ 6 _ _ (World.drew _)
        have hS : Blk x7.drew g17 24 #[.int .u64 (p : Nat), .int .u64 (e1 : Nat), .int .u8 0] := q17
        have hb := (Below.refl x7.heap.size x7).drew
        generalize x7.drew = U at *
              -- take0 take1 take2 one3 take4 one5 done
        refine g_take (i := 0) rfl rfl (by kernel_rfl) (by kernel_rfl) (by kernel_rfl) (by kernel_rfl) (by kernel_rfl) (fun _ _ _ h => h) hS (fun L W hL hW => by go_simp; rfl) ?_
        refine g_take (i := 1) rfl rfl (by kernel_rfl) (by kernel_rfl) (by kernel_rfl) (by kernel_rfl) (by kernel_rfl) (fun _ _ _ h => h) hS (fun L W hL hW => by go_simp; rfl) ?_
        refine g_take (i := 2) rfl rfl (by kernel_rfl) (by kernel_rfl) (by kernel_rfl) (by kernel_rfl) (by kernel_rfl) (fun _ _ _ h => h) hS (fun L W hL hW => by have rr0 := Blk.at_ hW 0 (v := .int .u64 (p : Nat)) rfl; have rr1 := Blk.at_ hW 1 (v := .int .u64 (e1 : Nat)) rfl; have rr2 := Blk.at_ hW 2 (v := .int .u8 0) rfl; go_simp; rfl) ?_
        refine g_one (i := 3) rfl rfl (by kernel_rfl) fun K hK => ?_
        have q20 := Blk.new_ U 24 #[.int .u64 0, .int .u64 0, .int .u8 0] rfl
        have hg := hb.size
        have hb' := hb.alloc hg (.cells #[.int .u64 0, .int .u64 0, .int .u8 0] 24)
        have hS' := hS.alloc (.cells #[.int .u64 0, .int .u64 0, .int .u8 0] 24)
        have hne : g17 ≠ U.heap.size := Nat.ne_of_lt hS.lt
        go_simp
        refine hK _ _ hS' ?_
        clear hK K hS hb
        generalize U.alloc (.cells #[.int .u64 0, .int .u64 0, .int .u8 0] 24) = U2 at *
        generalize U.heap.size = g20 at *
        refine g_take (i := 4) rfl rfl (by kernel_rfl) (by kernel_rfl) (by kernel_rfl) (by kernel_rfl) (by kernel_rfl) (fun _ _ _ h => h) hS' (fun L W hL hW => by go_simp; rfl) ?_
        refine g_one (i := 5) rfl rfl (by kernel_rfl) fun K hK => ?_
        have z0 := Blk.at_ q20 0 (v := .int .u64 0) rfl
        have z1 := Blk.at_ q20 1 (v := .int .u64 0) rfl
        have z2 := Blk.at_ q20 2 (v := .int .u8 0) rfl
        have zf := q20.frozen
        have q20' := ((q20.set_ 0 (.int .u64 (p : Nat))).set_ 1 (.int .u64 (e1 : Nat))).set_ 2 (.int .u8 0)
        have hSx := ((hS'.farN (o := 0) hne (.int .u64 (p : Nat))).farN (o := 1) hne (.int .u64 (e1 : Nat))).farN (o := 2) hne (.int .u8 0)
        have hbx := ((hb'.setCell (p := ⟨g20, 0, none⟩) hg (.int .u64 (p : Nat))).setCell (p := ⟨g20, 1, none⟩) hg (.int .u64 (e1 : Nat))).setCell (p := ⟨g20, 2, none⟩) hg (.int .u8 0)
        have QX := Lib.hid (And.intro q20' hbx)
        clear q20' hbx q20
        go_simp
        refine hK _ _ hSx ?_
        clear hK K z0 z1 z2 zf
        refine wpAnyG_done (by kernel_rfl) ?_ _
        go_simp
        go_wp2_with fail
        go_meet
        exact ⟨rfl, _, rfl, hg, QX.out.1, QX.out.2⟩
      case rest =>
      obtain ⟨rfl, g20, rfl, hg20, q20, hb⟩ := hcut
      clear t1 y1
      have hlt20 := q20.lt
      have n20 : ¬ F g20 := fun h => by have := (hA.lt h).2; omega
      have H3 : Hid (∀ wh : Bool, which = wh → True) := Lib.hid fun _ _ => trivial
      clear H3

      obtain ⟨sl, hsl⟩ : ∃ k, k = if which = true then m2 else m1 := ⟨_, rfl⟩
      obtain ⟨l0, hl0⟩ : ∃ k, k = if which = true then n else p := ⟨_, rfl⟩
      obtain ⟨l1, hl1⟩ : ∃ k, k = if which = true then E else e1 := ⟨_, rfl⟩
      have H3 : Hid (sl < 2 ∧ sh s (1 - sl) = Hd.bytes ⟨l0, l1, 0⟩ ∧ Wf ⟨l0, l1, 0⟩ ∧ right ⟨l0, l1, 0⟩ = true ∧ l0 % 2 = 1 - sl) := Lib.hid (by
        obtain ⟨hm1, hm2, hp, hq⟩ := HM.out
        cases which
        · rw [if_neg (by simp)] at hsl hl0 hl1
          subst hsl hl0 hl1
          exact ⟨lt1, by rw [show 1 - sl = m2 by omega]; exact H2.out, W2.out.1, W2.out.2, by omega⟩
        · rw [if_pos rfl] at hsl hl0 hl1
          subst hsl hl0 hl1
          exact ⟨lt2, by rw [show 1 - sl = m1 by omega]; exact H1.out, W1.out.1, W1.out.2, by omega⟩)
      have HSL := Lib.hid (And.intro hsl (And.intro hl0 hl1))
      clear hsl hl0 hl1
      go_upto_if 115 with fail
      go_cut [19, 20] (fun v u wx => v = .int .i64 sl ∧ u = .pointer (some ⟨g20, 0, none⟩) ∧ Blk wx g20 24 #[.int .u64 (l0 : Nat), .int .u64 (l1 : Nat), .int .u8 0] ∧ Below x7.heap.size x7 wx)
      case first =>
        clear H1 H2 HAL W1 W2 HM HC H3
        cases which
        · obtain rfl : sl = m1 := HSL.out.1
          obtain rfl : l0 = p := HSL.out.2.1
          obtain rfl : l1 = e1 := HSL.out.2.2
          go_wp2_with fail
          go_meet
          exact ⟨rfl, rfl, q20, hb⟩
        · obtain rfl : sl = m2 := HSL.out.1
          obtain rfl : l0 = n := HSL.out.2.1
          obtain rfl : l1 = E := HSL.out.2.2
          have t2 := K1b.out
          have y2 := K2b.out
          have y3 := K3b.out
          go_upto_region 21 with fail
          clear HSL
          refine wp_region_heldG [] (fun _ W => Blk W g15 24 #[.int .u64 (l0 : Nat), .int .u64 (l1 : Nat), .int .u8 0]) (by kernel_rfl) ?_
          change wpAnyG _ _ _ _ _ _ 6 _ _ (World.drew _)
          have hS : Blk wc.drew g15 24 #[.int .u64 (l0 : Nat), .int .u64 (l1 : Nat), .int .u8 0] := (q15.below hb q15.lt).drew
          have hb := hb.drew
          have q20 := q20.drew
          have hne : g15 ≠ g20 := Nat.ne_of_lt (Nat.lt_of_lt_of_le q15.lt hg20)
          clear q15 q17 q5 hA
          generalize wc.drew = U at *
                -- take0 take1 take2 take3 take4 one5 done
          refine g_take (i := 0) rfl rfl (by kernel_rfl) (by kernel_rfl) (by kernel_rfl) (by kernel_rfl) (by kernel_rfl) (fun _ _ _ h => h) hS (fun L W hL hW => by go_simp; rfl) ?_
          refine g_take (i := 1) rfl rfl (by kernel_rfl) (by kernel_rfl) (by kernel_rfl) (by kernel_rfl) (by kernel_rfl) (fun _ _ _ h => h) hS (fun L W hL hW => by go_simp; rfl) ?_
          refine g_take (i := 2) rfl rfl (by kernel_rfl) (by kernel_rfl) (by kernel_rfl) (by kernel_rfl) (by kernel_rfl) (fun _ _ _ h => h) hS (fun L W hL hW => by go_simp; rfl) ?_
          refine g_take (i := 3) rfl rfl (by kernel_rfl) (by kernel_rfl) (by kernel_rfl) (by kernel_rfl) (by kernel_rfl) (fun _ _ _ h => h) hS (fun L W hL hW => by have rr0 := Blk.at_ hW 0 (v := .int .u64 (l0 : Nat)) rfl; have rr1 := Blk.at_ hW 1 (v := .int .u64 (l1 : Nat)) rfl; have rr2 := Blk.at_ hW 2 (v := .int .u8 0) rfl; go_simp; rfl) ?_
          refine g_take (i := 4) rfl rfl (by kernel_rfl) (by kernel_rfl) (by kernel_rfl) (by kernel_rfl) (by kernel_rfl) (fun _ _ _ h => h) hS (fun L W hL hW => by go_simp; rfl) ?_
          refine g_one (i := 5) rfl rfl (by kernel_rfl) fun K hK => ?_
          have z0 := Blk.at_ q20 0 (v := .int .u64 (p : Nat)) rfl
          have z1 := Blk.at_ q20 1 (v := .int .u64 (e1 : Nat)) rfl
          have z2 := Blk.at_ q20 2 (v := .int .u8 0) rfl
          have zf := q20.frozen
          have q20' := ((q20.set_ 0 (.int .u64 (l0 : Nat))).set_ 1 (.int .u64 (l1 : Nat))).set_ 2 (.int .u8 0)
          have hSx := ((hS.farN (o := 0) hne (.int .u64 (l0 : Nat))).farN (o := 1) hne (.int .u64 (l1 : Nat))).farN (o := 2) hne (.int .u8 0)
          have hbx := ((hb.setCell (p := ⟨g20, 0, none⟩) hg20 (.int .u64 (l0 : Nat))).setCell (p := ⟨g20, 1, none⟩) hg20 (.int .u64 (l1 : Nat))).setCell (p := ⟨g20, 2, none⟩) hg20 (.int .u8 0)
          have QX := Lib.hid (And.intro q20' hbx)
          clear q20' hbx q20
          go_simp
          refine hK _ _ hSx ?_
          clear hK K z0 z1 z2 zf
          refine wpAnyG_done (by kernel_rfl) ?_ _
          go_simp
          go_wp2_with fail
          go_meet
          exact ⟨rfl, rfl, QX.out.1, QX.out.2⟩
      case rest =>
      obtain ⟨rfl, rfl, q20', hb'⟩ := hcut
      clear q20 hb q15 q17 H1 H2 W1 W2 HM HC HSL K1b K2b K3b X1 X2 hlt20
      have q20 := q20'
      have hb := hb'
      clear q20' hb' hB7
      have q5' := q5.below hb q5.lt
      have hA' := hA.below hb
      have hB' := hB.trans (hb.mono hB.size)
      clear q5 hA hB hb
      have q5 := q5'
      have hA := hA'
      have hB := hB'
      clear q5' hA' hB'
      obtain ⟨⟨⟨k0, k1, k2⟩, ok⟩, hz⟩ : ∃ r, readR sp = r := ⟨_, rfl⟩
      have hRd := read_any (some ⟨g5, 0, none⟩) 32 sp 32 HSP.out.symm (Nat.le_refl _) (by simp [maxLen]) wc (Bytes.blk q5 q5.lt sp rfl)
      rw [hz] at hRd
      simp only [hv] at hRd
      have HZ := Lib.hid hz
      clear hz
      go_wp2_with fail
      refine Calls.mono hRd ?_
      rintro e z1 ⟨rfl, hb⟩
      clear hRd
      have q5' := q5.below hb q5.lt
      have q20' := q20.below hb q20.lt
      have hA' := hA.below hb
      have hB' := hB.trans (hb.mono hB.size)
      clear q5 q20 hA hB hb
      have q5 := q5'
      have q20 := q20'
      have hA := hA'
      have hB := hB'
      clear q5' q20' hA' hB'
      have q21 := Blk.new_ z1 24 #[.int .u64 (k0 : Nat), .int .u64 (k1 : Nat), .int .u8 (k2 : Nat)] rfl
      have hb := (Below.refl z1.heap.size z1).alloc (Nat.le_refl _) (.cells #[.int .u64 (k0 : Nat), .int .u64 (k1 : Nat), .int .u8 (k2 : Nat)] 24)
      have q5' := q5.below hb q5.lt
      have q20' := q20.below hb q20.lt
      have hA' := hA.below hb
      have hB' := hB.trans (hb.mono hB.size)
      clear q5 q20 hA hB hb
      have q5 := q5'
      have q20 := q20'
      have hA := hA'
      have hB := hB'
      clear q5' q20' hA' hB'
      go_upto_region 23 with fail
      generalize z1.alloc (.cells #[.int .u64 (k0 : Nat), .int .u64 (k1 : Nat), .int .u8 (k2 : Nat)] 24) = z2 at *
      generalize z1.heap.size = g21 at *
      obtain ⟨km, hkm⟩ : ∃ m, m = k0 % 2 := ⟨_, rfl⟩
      have hl2 := H3.out.1
      have t4 : (k0 : Int).tmod 2 = (km : Int) := by rw [Int.tmod_eq_emod_of_nonneg (Int.natCast_nonneg _)]; omega
      have y8 : IntKind.u64.wrap (km : Int) = (km : Int) := by rw [IntKind.wrap_u64]; omega
      have y9 : IntKind.u64.wrap (sl : Int) = (sl : Int) := by rw [IntKind.wrap_u64]; omega
      have f0 := Blk.at_ q21 0 (v := .int .u64 (k0 : Nat)) rfl
      have HKM := Lib.hid hkm
      clear hkm hl2
      by_cases hsk : ok = true ∧ km = sl
      · obtain ⟨rfl, hks⟩ := hsk
        subst hks
        go_wp2_with fail
        refine Calls.mono (awake_any _) ?_
        rintro e wz ⟨rfl, hb⟩
        have hB2 := hB.trans (hb.mono hB.size)
        go_wp2_with fail
        go_ret
        exact ⟨rfl, hB2⟩
      · go_cut [133] (fun v wx => v = .bool false ∧ wx = z2)
        case first =>
          cases ok
          · go_wp2_with fail
            go_meet
            exact ⟨rfl, rfl⟩
          · have u9 : ¬ (km : Int) = (sl : Int) := fun e => hsk ⟨rfl, by omega⟩
            clear hsk
            go_wp2_with fail
            go_meet
            exact ⟨congrArg Value.bool (beq_eq_false_iff_ne.2 u9), rfl⟩
        case rest =>
        obtain ⟨rfl, rfl⟩ := hcut
        clear t4 y8 y9 f0 q21
        have HSK := Lib.hid hsk
        clear hsk
        have hW := write_any hA (sl : Nat) (A := some ⟨g5, 0, none⟩) (n := 32) (c := 32) HSP.out.symm (Bytes.blk q5 q5.lt sp rfl) (fun _ x o e hF => by cases e; exact n5 hF)
        rw [wr_ok HAL.out.fuse HAL.out.dead H3.out.1 HSP.out] at hW
        go_wp2_with fail
        refine Calls.mono hW ?_
        rintro en z3 ⟨rfl, F2, hA2, hfr, hF2⟩
        clear hW q5 n5
        have q20' := q20.fr hfr n20
        have n20' : ¬ F2 g20 := fun h => (hF2 _ h).elim n20 (fun h => by have := q20.lt; omega)
        have hA' : At z3 gd F2 gd (putS sl sp s) := hA2
        have hB' := hB.trans (hfr.below hB.size fun k hk => Nat.le_trans hgb (hA.lt hk).1)
        clear q20 n20 hA hB hfr hF2 hA2
        have q20 := q20'
        have n20 := n20'
        have hA := hA'
        have hB := hB'
        clear q20' n20' hA' hB'
        have hL := load_any hA
        have hal : Al (putS sl sp s) := ⟨HAL.out.fuse, HAL.out.dead⟩
        rw [load_own hal H3.out.2.2.1 H3.out.2.2.2.1 (1 - sl) H3.out.2.2.2.2 (by rw [putS_ne (by have := H3.out.1; omega)]; exact H3.out.2.1) (fun gg hg => by
          have hl2 := H3.out.1
          rw [show 1 - (1 - sl) = sl by omega, putS_eq] at hg
          left
          have h1 := HZ.out
          unfold readR at h1
          rw [hg] at h1
          cases h1
          have h2 := HKM.out
          have h3 := HSK.out
          have h4 : ¬ km = sl := fun e => h3 ⟨rfl, e⟩
          show k0 % 2 = 1 - sl
          omega)] at hL
        simp only [hv] at hL
        clear hal
        go_wp2_with fail
        refine Calls.mono hL ?_
        rintro en z4 ⟨rfl, F3, hA2, hfr, hF2⟩
        clear hL
        have q20' := q20.fr hfr n20
        have n20' : ¬ F3 g20 := fun h => (hF2 _ h).elim n20 (fun h => by have := q20.lt; omega)
        have hA' : At z4 gd F3 gd (putS sl sp s) := hA2
        have hB' := hB.trans (hfr.below hB.size fun k hk => Nat.le_trans hgb (hA.lt hk).1)
        clear q20 n20 hA hB hfr hF2 hA2
        have q20 := q20'
        have n20 := n20'
        have hA := hA'
        have hB := hB'
        clear q20' n20' hA' hB'
        have q23 := Blk.new_ z4 24 #[.int .u64 (l0 : Nat), .int .u64 (l1 : Nat), .int .u8 0] rfl
        have hb := (Below.refl z4.heap.size z4).alloc (Nat.le_refl _) (.cells #[.int .u64 (l0 : Nat), .int .u64 (l1 : Nat), .int .u8 0] 24)
        have q20' := q20.below hb q20.lt
        have hA' := hA.below hb
        have hB' := hB.trans (hb.mono hB.size)
        clear q20 hA hB hb
        have q20 := q20'
        have hA := hA'
        have hB := hB'
        clear q20' hA' hB'
        go_upto_region 28 with fail
        generalize z4.alloc (.cells #[.int .u64 (l0 : Nat), .int .u64 (l1 : Nat), .int .u8 0] 24) = z5 at *
        generalize z4.heap.size = g23 at *
        have f0 := Blk.at_ q23 0 (v := .int .u64 (l0 : Nat)) rfl
        have f1 := Blk.at_ q23 1 (v := .int .u64 (l1 : Nat)) rfl
        have f2 := Blk.at_ q23 2 (v := .int .u8 0) rfl
        have z0 := Blk.at_ q20 0 (v := .int .u64 (l0 : Nat)) rfl
        have z1 := Blk.at_ q20 1 (v := .int .u64 (l1 : Nat)) rfl
        have z2 := Blk.at_ q20 2 (v := .int .u8 0) rfl
        clear hA
        go_wp2_with fail
        refine Calls.mono (awake_any _) ?_
        rintro e wz ⟨rfl, hb⟩
        have hB2 := hB.trans (hb.mono hB.size)
        go_wp2_with fail
        go_ret
        exact ⟨rfl, hB2⟩
end Go.Proofs.Ytpohefpiidlnjaa.HdW
