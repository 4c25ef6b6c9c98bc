/-
  A bundle's grow: an order grows, and takes edges up to the first that is refused.
-/
import Derived.Test.YtelplccbcbegkaaOrderRun
namespace Go.Proofs.Ytelplccbcbegkaa.Ord
set_option linter.unusedVariables false
open Go.Proofs.Ytelplccbcbegkaa.Gr (E Path Inside OK outs intos Cyc putL)
open Go.Proofs.Ytelplccbcbegkaa.GrW (isV growL)

/-- What is told of an edge between whatever numbers. -/
def PutI (n : Nat) (L : List (List Int)) (P A : List Nat) (x : Int × Int) (c k : Nat) (L' : List (List Int)) (P' A' : List Nat) : Prop :=
  ((isV n x.1 && isV n x.2) = false ∧ k = 2 ∧ c = 0 ∧ L' = L ∧ P' = P ∧ A' = A) ∨ ∃ a b : Nat, a < n ∧ b < n ∧ x = ((a : Int), (b : Int)) ∧ Put1 n L P A a b c k L' P' A'
theorem PutI.st {n : Nat} {L L' : List (List Int)} {P A P' A' : List Nat} {x : Int × Int} {c k : Nat} (h : PutI n L P A x c k L' P' A') (hs : OSt n L P A) : OSt n L' P' A' := by
  rcases h with ⟨-, -, -, rfl, rfl, rfl⟩ | ⟨a, b, ha, hb, -, h⟩
  · exact hs
  · exact h.st hs ha hb
theorem PutI.code {n : Nat} {L L' : List (List Int)} {P A P' A' : List Nat} {x : Int × Int} {c k : Nat} (h : PutI n L P A x c k L' P' A') : k = 0 ∨ k = 2 ∨ k = 25 := by
  rcases h with ⟨-, h, -⟩ | ⟨a, b, -, -, -, h⟩
  · exact .inr (.inl h)
  · rcases h.code.2 with h | h
    · exact .inl h
    · exact .inr (.inr h)
theorem PutI.same {n : Nat} {L L' : List (List Int)} {P A P' A' : List Nat} {x : Int × Int} {c k : Nat} (h : PutI n L P A x c k L' P' A') (hk : k ≠ 0) : c = 0 ∧ L' = L ∧ P' = P ∧ A' = A := by
  rcases h with ⟨-, -, h⟩ | ⟨a, b, -, -, -, h | h⟩
  · exact h
  · exact ⟨h.2.1, h.2.2.2⟩
  · exact absurd h.1 hk
/-- Edges that were all taken, one by one. -/
inductive Ran (n : Nat) : List (List Int) → List Nat → List Nat → List (Int × Int) → List (List Int) → List Nat → List Nat → Prop
  | nil (L : List (List Int)) (P A : List Nat) : Ran n L P A [] L P A
  | snoc {L L1 L2 : List (List Int)} {P A P1 A1 P2 A2 : List Nat} {es : List (Int × Int)} {x : Int × Int} {c : Nat} : Ran n L P A es L1 P1 A1 → PutI n L1 P1 A1 x c 0 L2 P2 A2 → Ran n L P A (es ++ [x]) L2 P2 A2
theorem Ran.st {n : Nat} {L L' : List (List Int)} {P A P' A' : List Nat} {es : List (Int × Int)} (h : Ran n L P A es L' P' A') (hs : OSt n L P A) : OSt n L' P' A' := by
  induction h with
  | nil => exact hs
  | snoc _ h2 ih => exact h2.st (ih hs)
/-- How far edges were taken: up to the i-th one, which was told k; all, if k is 0. -/
def Went (n : Nat) (L : List (List Int)) (P A : List Nat) (es : List (Int × Int)) (i k : Nat) (L' : List (List Int)) (P' A' : List Nat) : Prop :=
  (k = 0 ∧ i = es.length ∧ Ran n L P A es L' P' A') ∨ (k ≠ 0 ∧ ∃ h : i < es.length, Ran n L P A (es.take i) L' P' A' ∧ ∃ L2 P2 A2, PutI n L' P' A' es[i] 0 k L2 P2 A2)
theorem Went.st {n : Nat} {L L' : List (List Int)} {P A P' A' : List Nat} {es : List (Int × Int)} {i k : Nat} (h : Went n L P A es i k L' P' A') (hs : OSt n L P A) : OSt n L' P' A' := by
  rcases h with ⟨-, -, h⟩ | ⟨-, -, h, -⟩
  · exact h.st hs
  · exact h.st hs
theorem OSt.gro' {n : Nat} {L : List (List Int)} {P A : List Nat} (h : OSt n L P A) (m : Nat) (hok : OK (n + m) (growL L m)) : OSt (n + m) (growL L m) (gro P n m) (gro A n m) := ⟨hok, h.perm.gro m, h.up.gro h.ok h.perm m⟩
end Go.Proofs.Ytelplccbcbegkaa.Ord
namespace Go.Proofs.Ytelplccbcbegkaa.OrW
set_option linter.unusedVariables false
open Go Go.RowKit Go.Proofs Go.Proofs.Ytelplccbcbegkaa Go.Proofs.Ytelplccbcbegkaa.Wd Go.Proofs.Ytelplccbcbegkaa.GrW Go.Proofs.Ytelplccbcbegkaa.Ord
open Go.Proofs.Ytelplccbcbegkaa.Gr (OK putL outs intos Path edgesTo ev)

theorem putI_any {w : World} {base o n : Nat} {F : Nat → Prop} {L : List (List Int)} {P A : List Nat} (h : OAt w base F o n L P A) (hs : OSt n L P A) (hn : n ≤ 15000) (u v : Int) :
    Calls Try.prog 30 #[.pointer (some ⟨o, 0, none⟩), .int .i64 u, .int .i64 v] w fun e w' => ∃ c k L' P' A', e = .returned (.tuple #[.int .i64 (c : Nat), .int .i64 (k : Nat)]) ∧ PutI n L P A (u, v) c k L' P' A' ∧ OUpd base F o n L' P' A' w w' := by
  by_cases hb : isV n u = true ∧ isV n v = true
  · obtain ⟨a, rfl, ha⟩ := isV_nat hb.1
    obtain ⟨b, rfl, hb'⟩ := isV_nat hb.2
    refine (putOS_any h hs hn a b ha hb').mono ?_
    rintro e w' ⟨c, k, L', P', A', rfl, h1, h2⟩
    exact ⟨c, k, L', P', A', rfl, .inr ⟨a, b, ha, hb', rfl, h1⟩, h2⟩
  · refine (putO_refused w base o n F L P A h u v hb).mono ?_
    rintro e w' ⟨rfl, rfl⟩
    refine ⟨0, 2, L, P, A, rfl, .inl ⟨?_, rfl, rfl, rfl, rfl, rfl⟩, OUpd.refl h⟩
    rw [← Bool.not_eq_true, Bool.and_eq_true]
    exact hb
/-- What grow answers. -/
def BGrowOut (base : Nat) (F : Nat → Prop) (o n : Nat) (L : List (List Int)) (P A : List Nat) (more : Int) (es : List (Int × Int)) (w : World) (e : Ending) (w' : World) : Prop :=
  if canGrow n more then ∃ i k L' P' A', e = .returned (.tuple #[.int .i64 (i : Nat), .int .i64 (k : Nat)]) ∧ Went (n + more.toNat) (growL L more.toNat) (gro P n more.toNat) (gro A n more.toNat) es i k L' P' A' ∧ OUpd base F o (n + more.toNat) L' P' A' w w' else e = .returned (.tuple #[.int .i64 0, .int .i64 2]) ∧ w' = w
set_option maxRecDepth 100000 in
set_option maxHeartbeats 4000000 in
theorem bgrow_any' (w : World) (base o n : Nat) (F : Nat → Prop) (L : List (List Int)) (P A : List Nat) (h : OAt w base F o n L P A) (hs : OSt n L P A) (hn : n ≤ 10000) (more : Int) (hok : ∀ m, OK (n + m) (growL L m)) (Ae : Option Addr) (q c : Nat) (es : List (Int × Int)) (hq : q = es.length) (hqm : q ≤ 1000000) (hE : EdgesAt w w.heap.size Ae es) (hA : ∀ b off, Ae = some ⟨b, off, none⟩ → es ≠ [] → ¬ F b) :
    Calls Try.prog 31 #[.pointer (some ⟨o, 0, none⟩), .int .i64 more, .slice Ae q c] w (BGrowOut base F o n L P A more es w) := by
  have HG := Lib.hid (growO_any w base o n F L P A h hs.perm hn more)
  have HS := Lib.hid hs
  have HOK := Lib.hid hok
  have HQ := Lib.hid hq
  have HE := Lib.hid hE
  have HA := Lib.hid hA
  clear h hs hok hq hE hA
  by_cases hc : canGrow n more = true
  · have HC := Lib.hid hc
    have hm2 : 0 ≤ more ∧ (n : Int) + more ≤ 10000 := by unfold canGrow at hc; simpa using hc
    obtain ⟨m, rfl⟩ : ∃ m : Nat, more = m := ⟨more.toNat, by omega⟩
    have hnm : n + m ≤ 10000 := by omega
    clear hc hm2
    go_enter Try.func31, Try.ntmps31
    go_wp2_with fail
    refine Calls.mono HG.out ?_
    intro e w1 h1
    unfold OGrowOut at h1
    rw [if_pos HC.out, Int.toNat_natCast] at h1
    obtain ⟨rfl, h1⟩ := h1
    have HU := Lib.hid h1
    have HS1 := Lib.hid (HS.out.gro' m (HOK.out m))
    clear HG h1 HOK HS
    generalize hN : n + m = N at *
    generalize hL0 : growL L m = L0 at *
    generalize hP0 : gro P n m = P0 at *
    generalize hA0 : gro A n m = A0 at *
    have HF0 : Hid (∀ e w', (∃ i k L' P' A', e = .returned (.tuple #[.int .i64 (i : Nat), .int .i64 (k : Nat)]) ∧ Went N L0 P0 A0 es i k L' P' A' ∧ OUpd base F o N L' P' A' w w') → BGrowOut base F o n L P A (m : Int) es w e w') := Lib.hid (fun e w' hh => by
      unfold BGrowOut
      rw [if_pos HC.out, Int.toNat_natCast, hN, hL0, hP0, hA0]
      exact hh)
    clear hL0 hP0 hA0 HC
    go_wp2_with fail
    go_loopw [21] (fun ix wr => ∃ j : Nat, j ≤ q ∧ ix = .int .i64 j ∧ Hid (∃ L' P' A', Ran N L0 P0 A0 (es.take j) L' P' A' ∧ OUpd base F o N L' P' A' w wr)) (fun ix _ => q - (intOf ix).toNat)
    case atStart => exact ⟨0, Nat.zero_le _, rfl, Lib.hid ⟨_, _, _, .nil _ _ _, HU.out⟩⟩
    case round =>
      obtain ⟨j, hj, rfl, HT⟩ := hrel
      clear HU
      by_cases hlt : j < q
      · have hjl : j < es.length := by have := HQ.out; omega
        obtain ⟨b, off, rfl, hb, p1, p2⟩ := HE.out j hjl
        obtain ⟨L1, P1, A1, hR, hU⟩ := HT.out
        have hnF := HA.out b off rfl (fun e => by rw [e] at hjl; simp at hjl)
        obtain ⟨F1, hO1, hF1, hN1⟩ := hU
        have hst := hR.st HS1.out
        have hblk := hF1.block b hb hnF
        have q1 := (World.cell?_of_block (w := w) (a := ⟨b, off + j * 2, none⟩) hblk).trans p1
        have q2 := (World.cell?_of_block (w := w) (a := ⟨b, off + j * 2 + 1, none⟩) hblk).trans p2
        have HTK := Lib.hid (show es.take (j + 1) = es.take j ++ [es[j]] from List.take_succ_eq_append_getElem hjl)
        have HJL := Lib.hid hjl
        have HXE := Lib.hid (show es[j] = es[j] from rfl)
        generalize hx : es[j] = x at q1 q2 HTK
        have HX := Lib.hid hx
        obtain ⟨xf, xt⟩ := x
        have HR := Lib.hid hR
        have HF1 := Lib.hid hF1
        have HN1 := Lib.hid hN1
        have HO1 := Lib.hid hO1
        have HST := Lib.hid hst
        have i1 : (0 : Int) ≤ (j : Int) := by omega
        have i2 : (j : Int) < (q : Int) := by omega
        have HLT := Lib.hid hlt
        have HB : Hid (Below wr.heap.size wr (wr.alloc (.cells #[.int .i64 xf, .int .i64 xt] 34))) := Lib.hid ((Below.refl _ wr).alloc (Nat.le_refl _) _)
        have HBX := Lib.hid (Blk.new_ wr 34 #[.int .i64 xf, .int .i64 xt] rfl)
        have b0 := HBX.out.at_ 0 rfl
        have b1 := HBX.out.at_ 1 rfl
        have HPI := Lib.hid (putI_any (HO1.out.below HB.out) HST.out (by omega) xf xt)
        clear p1 p2 hb hR hO1 hF1 hN1 hst hblk hnF hjl hx HT
        go_wp2_with fail
        refine Calls.mono HPI.out ?_
        rintro e w2 ⟨ch, kc, L2, P2, A2, rfl, hP, hU2⟩
        have HUP : Hid (OUpd base F o N L2 P2 A2 w w2) := Lib.hid (by
          obtain ⟨F2, z1, z2, z3⟩ := hU2
          have hfa : Fr F w (wr.alloc (.cells #[.int .i64 xf, .int .i64 xt] 34)) := HF1.out.trans (Fr.of_below (F := F) HB.out) (fun _ _ e => e)
          refine ⟨F2, z1, hfa.trans z2 (fun i hi e => ?_), fun i hi => ?_⟩
          · rcases HN1.out i e with e | e
            · exact e
            · omega
          · rcases z3 i hi with e | e
            · exact HN1.out i e
            · have := hfa.size; exact .inr (by omega))
        have hcode := hP.code
        by_cases hk0 : kc = 0
        · subst hk0
          have HN : Hid (∃ L' P' A', Ran N L0 P0 A0 (es.take (j + 1)) L' P' A' ∧ OUpd base F o N L' P' A' w w2) := Lib.hid ⟨_, _, _, by rw [HTK.out]; exact .snoc HR.out hP, HUP.out⟩
          clear hP hU2 HUP hcode HPI b0 b1 HBX HB HR HF1 HN1 HO1
          go_wp2_with fail
          go_roundw
          case rel => exact ⟨j + 1, by have := HLT.out; omega, by go_num, HN⟩
          case measure => simp [intOf]; have := HLT.out; omega
        · obtain ⟨rfl, rfl, rfl, rfl⟩ := hP.same hk0
          have HFIN := Lib.hid (HF0.out (.returned (.tuple #[.int .i64 (j : Nat), .int .i64 (kc : Nat)])) w2 ⟨j, kc, _, _, _, rfl, .inr ⟨hk0, HJL.out, HR.out, _, _, _, HX.out.symm ▸ hP⟩, HUP.out⟩)
          have hkb : ((kc : Int) == 0) = false := by rw [beq_eq_false_iff_ne]; omega
          clear hP hU2 HUP hcode HPI b0 b1 HBX HB HR HF1 HN1 HO1 hk0
          go_wp2_with fail
          go_ret2
          exact HFIN.out
      · have i2 : ¬ (j : Int) < (q : Int) := by omega
        have hjq : j = q := by omega
        obtain ⟨L1, P1, A1, hR, hU⟩ := HT.out
        have HFIN := Lib.hid (HF0.out (.returned (.tuple #[.int .i64 (q : Nat), .int .i64 0])) wr ⟨q, 0, _, _, _, rfl, .inl ⟨rfl, HQ.out, by
          rw [List.take_of_length_le (by have := HQ.out; omega)] at hR
          exact hR⟩, hU⟩)
        clear hR hU HT hjq
        go_wp2_with fail
        go_ret2
        exact HFIN.out
  · have HF : Hid (BGrowOut base F o n L P A more es w (.returned (.tuple #[.int .i64 0, .int .i64 2])) w) := Lib.hid (by
      unfold BGrowOut
      rw [if_neg hc]
      exact ⟨rfl, rfl⟩)
    have HC := Lib.hid hc
    clear hc
    go_enter Try.func31, Try.ntmps31
    go_wp2_with fail
    refine Calls.mono HG.out ?_
    intro e w1 h1
    unfold OGrowOut at h1
    rw [if_neg HC.out] at h1
    obtain ⟨rfl, rfl⟩ := h1
    clear HG
    go_wp2_with fail
    go_ret2
    exact HF.out
theorem bgrow_any (w : World) (base o n : Nat) (F : Nat → Prop) (L : List (List Int)) (P A : List Nat) (h : OAt w base F o n L P A) (hs : OSt n L P A) (hn : n ≤ 10000) (more : Int) (hok : ∀ m, OK (n + m) (growL L m)) (Ae : Option Addr) (q c : Nat) (es : List (Int × Int)) (hq : q = es.length) (hqm : q ≤ 1000000) (hE : EdgesAt w w.heap.size Ae es) (hA : ∀ b off, Ae = some ⟨b, off, none⟩ → ¬ F b) :
    Calls Try.prog 31 #[.pointer (some ⟨o, 0, none⟩), .int .i64 more, .slice Ae q c] w (BGrowOut base F o n L P A more es w) :=
  bgrow_any' w base o n F L P A h hs hn more hok Ae q c es hq hqm hE (fun b off e _ => hA b off e)
end Go.Proofs.Ytelplccbcbegkaa.OrW
