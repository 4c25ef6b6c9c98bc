/-
  The document's bundle: Put.
-/
import Derived.Test.YtelplccbcbegkaaBundleRefPl
namespace Go.Proofs.Ytelplccbcbegkaa.OrW
set_option linter.unusedVariables false
open Go Go.RowKit Go.Proofs Go.Proofs.Ytelplccbcbegkaa Go.Proofs.Ytelplccbcbegkaa.Wd Go.Proofs.Ytelplccbcbegkaa.GrW Go.Proofs.Ytelplccbcbegkaa.Ord
open Go.Proofs.Ytelplccbcbegkaa.Gr (OK putL outs intos Path edgesTo ev)

theorem results_cell5 {P : Program} {fn : Func} {p p2 t u v : Tmp} {ty : TypeId} (h : fn.results = #[.cell p ty, .tmp t, .cell p2 ty, .tmp u, .tmp v]) (tmps : Array Value) (w : World) (g g2 : Nat) (te te2 : TypeId) (cs cs2 : Array Value) (fr fr2 : Nat × Nat) (d : TypeDesc)
    (hp : tmps.getD p undef = .pointer (some ⟨g, 0, none⟩)) (hg : w.heap[g]? = some (.cells cs te fr)) (hp2 : tmps.getD p2 undef = .pointer (some ⟨g2, 0, none⟩)) (hg2 : w.heap[g2]? = some (.cells cs2 te2 fr2))
    (hu : P.underlying ty = some d) (hd : (match d with | .struct _ | .array _ _ => true | _ => false) = true) (hi : (P.info? ty).map (·.size) = some cs.size) (hi2 : (P.info? ty).map (·.size) = some cs2.size) :
    (results fn tmps).run P w = .ok (.tuple #[.agg cs, tmps.getD t undef, .agg cs2, tmps.getD u undef, tmps.getD v undef]) w := by
  have hp' : tmps[p]?.getD undef = .pointer (some ⟨g, 0, none⟩) := by simpa using hp
  have hp2' : tmps[p2]?.getD undef = .pointer (some ⟨g2, 0, none⟩) := by simpa using hp2
  simp [results, h, hp', hp2', asAddr, run_loadVar_row w g te ty cs fr d hg hu hd hi, run_loadVar_row w g2 te2 ty cs2 fr2 d hg2 hu hd hi2]
/-- What the document's Put of a bundle answers. -/
def RPutOut (w : World) (n : Nat) (A : Option Addr) (q c : Nat) (Am : Option Addr) (cm : Nat) (L : List (List Int)) (P V : List Nat) (more : Int) (es : List (Int × Int)) (e : Ending) (w' : World) : Prop :=
  Below w.heap.size w w' ∧ ((canGrow n more = false ∧ e = .returned (.tuple #[ov n A q c Am n cm, .int .i64 0, ov n A q c Am n cm, .int .i64 0, .int .i64 2])) ∨
   (canGrow n more = true ∧ ∃ (N i k : Nat) (L' : List (List Int)) (P' V' : List Nat) (A' : Option Addr) (q' c' : Nat) (Am' : Option Addr) (cm' : Nat), N = n + more.toNat ∧ Went N (growL L more.toNat) (gro P n more.toNat) (gro V n more.toNat) es i k L' P' V' ∧ RO w' N A' q' c' Am' cm' L' V' ∧ q' ≤ q + es.length ∧ NewB w w' A A' ∧ NewB w w' Am Am' ∧
     ((k ≠ 0 ∧ e = .returned (.tuple #[ov n A q c Am n cm, .int .i64 0, ov N A' q' c' Am' N cm', .int .i64 (i : Nat), .int .i64 (k : Nat)])) ∨ (k = 0 ∧ e = .returned (.tuple #[ov N A' q' c' Am' N cm', .int .i64 (rch P P' n : Nat), ov N A' q' c' Am' N cm', .int .i64 (es.length : Nat), .int .i64 0])))))
theorem growR_yes {w : World} {n : Nat} (hn : n ≤ 10000) {L : List (List Int)} {P V : List Nat} (hs : OSt n L P V) {A : Option Addr} {q c : Nat} {Am : Option Addr} {cm : Nat} (hR : RO w n A q c Am cm L V) {k : Int} (hk : canGrow n k = true) :
    Calls Try.prog 46 #[ov n A q c Am n cm, .int .i64 k] w fun e w' => ∃ (Am' : Option Addr) (cm' : Nat), e = .returned (.tuple #[ov (n + k.toNat) A q c Am' (n + k.toNat) cm', .int .i64 0]) ∧ Below w.heap.size w w' ∧ RO w' (n + k.toNat) A q c Am' cm' (growL L k.toNat) (gro V n k.toNat) ∧ NewB w w' Am Am' := by
  have h := growD_r hn hs hR k
  unfold oN oC oL oP at h
  rw [if_pos hk, if_pos hk, if_pos hk, if_pos hk] at h
  exact h
theorem growR_no {w : World} {n : Nat} (hn : n ≤ 10000) {L : List (List Int)} {P V : List Nat} (hs : OSt n L P V) {A : Option Addr} {q c : Nat} {Am : Option Addr} {cm : Nat} (hR : RO w n A q c Am cm L V) {k : Int} (hk : canGrow n k = false) :
    Calls Try.prog 46 #[ov n A q c Am n cm, .int .i64 k] w fun e w' => e = .returned (.tuple #[ov n A q c Am n cm, .int .i64 2]) ∧ Below w.heap.size w w' := by
  refine (growR_any w n hn A q c Am cm V hs.perm.la hR.nums k).mono ?_
  intro e w' h
  unfold GrowR at h
  rw [if_neg (by rw [hk]; simp)] at h
  exact h
/-- The boxes of Put, and the order that grows beside. -/
structure PX (w wr : World) (n : Nat) (A : Option Addr) (q c : Nat) (Am : Option Addr) (cm bx N : Nat) (A' : Option Addr) (q' c' : Nat) (Am' : Option Addr) (cm' : Nat) (L' : List (List Int)) (V' : List Nat) : Prop where
  low : Below w.heap.size w wr
  b0 : Blk wr w.heap.size 55 #[.int .i64 (n : Int), .slice A q c, .slice Am n cm]
  b1 : Blk wr (w.heap.size + 1) 55 #[.int .i64 0, .slice none 0 0, .slice none 0 0]
  b2 : Blk wr (w.heap.size + 2) 55 #[.int .i64 0, .slice none 0 0, .slice none 0 0]
  box : Blk wr bx 55 #[.int .i64 (N : Int), .slice A' q' c', .slice Am' N cm']
  bl : w.heap.size + 3 ≤ bx
  ro : RO wr N A' q' c' Am' cm' L' V'
  na : A' = A ∨ ∀ b off, A' = some ⟨b, off, none⟩ → w.heap.size + 3 ≤ b ∧ b ≠ bx
  nm : Am' = Am ∨ ∀ b off, Am' = some ⟨b, off, none⟩ → w.heap.size + 3 ≤ b ∧ b ≠ bx
section
variable {w wr w' : World} {n : Nat} {A : Option Addr} {q c : Nat} {Am : Option Addr} {cm bx N : Nat} {A' : Option Addr} {q' c' : Nat} {Am' : Option Addr} {cm' : Nat} {L' : List (List Int)} {V' : List Nat}
theorem PX.below (h : PX w wr n A q c Am cm bx N A' q' c' Am' cm' L' V') (hb : Below wr.heap.size wr w') : PX w w' n A q c Am cm bx N A' q' c' Am' cm' L' V' :=
  ⟨h.low.trans (hb.mono h.low.size), h.b0.below hb h.b0.lt, h.b1.below hb h.b1.lt, h.b2.below hb h.b2.lt, h.box.below hb h.box.lt, h.bl, h.ro.below hb, h.na, h.nm⟩
theorem NewB.to {A2 : Option Addr} {b0 : Nat} (h : A' = A ∨ ∀ b off, A' = some ⟨b, off, none⟩ → w.heap.size + 3 ≤ b ∧ b ≠ bx) (hN : NewB wr w' A' A2) (hbx : bx < wr.heap.size) (hb : w.heap.size + 3 ≤ wr.heap.size) : A2 = A ∨ ∀ b off, A2 = some ⟨b, off, none⟩ → w.heap.size + 3 ≤ b ∧ b ≠ bx := by
  rcases hN with rfl | h2
  · exact h
  · exact .inr fun b off e => by have := (h2 b off e).1; omega
theorem far_of {A2 : Option Addr} (hl : Lies w A) (h : A2 = A ∨ ∀ b off, A2 = some ⟨b, off, none⟩ → w.heap.size + 3 ≤ b ∧ b ≠ bx) {g : Nat} (hg : (w.heap.size ≤ g ∧ g < w.heap.size + 3) ∨ (g = bx ∧ w.heap.size ≤ g)) : ∀ off, A2 ≠ some ⟨g, off, none⟩ := fun off e => by
  rcases h with rfl | h
  · have := hl g off e; omega
  · have := h g off e; omega
/-- The order is another one, in its box. -/
theorem PX.upd {A2 : Option Addr} {q2 c2 : Nat} {Am2 : Option Addr} {cm2 : Nat} {L2 : List (List Int)} {V2 : List Nat} (h : PX w wr n A q c Am cm bx N A' q' c' Am' cm' L' V') (hlA : Lies w A) (hlM : Lies w Am) (hb : Below wr.heap.size wr w') (hr : RO w' N A2 q2 c2 Am2 cm2 L2 V2) (hA : NewB wr w' A' A2) (hM : NewB wr w' Am' Am2) :
    PX w (((w'.setCell ⟨bx, 0, none⟩ (.int .i64 (N : Int))).setCell ⟨bx, 1, none⟩ (.slice A2 q2 c2)).setCell ⟨bx, 2, none⟩ (.slice Am2 N cm2)) n A q c Am cm bx N A2 q2 c2 Am2 cm2 L2 V2 := by
  have h1 := h.below hb
  have hs : w.heap.size + 3 ≤ wr.heap.size := by have := h.bl; have := h.box.lt; omega
  have hbl := h.bl
  have hna := hA.to (b0 := 0) h.na h.box.lt hs
  have hnm := hM.to (b0 := 0) h.nm h.box.lt hs
  have f1 := far_of hlA hna (g := bx) (.inr ⟨rfl, by omega⟩)
  have f2 := far_of hlM hnm (g := bx) (.inr ⟨rfl, by omega⟩)
  have sc : ∀ (W : World) (i : Nat) (v : Value), Below w.heap.size w W → Below w.heap.size w (W.setCell ⟨bx, i, none⟩ v) := fun W i v hW => hW.setCell (p := ⟨bx, i, none⟩) (by show w.heap.size ≤ bx; omega) v
  refine ⟨sc _ _ _ (sc _ _ _ (sc _ _ _ h1.low)), ((h1.b0.farN (by omega) _).farN (by omega) _).farN (by omega) _, ((h1.b1.farN (by omega) _).farN (by omega) _).farN (by omega) _, ((h1.b2.farN (by omega) _).farN (by omega) _).farN (by omega) _, ((h1.box.set_ 0 _).set_ 1 _).set_ 2 _, hbl, ((hr.set_ 0 _ f1 f2).set_ 1 _ f1 f2).set_ 2 _ f1 f2, hna, hnm⟩
/-- At the end: two orders in their boxes. -/
theorem PX.fin (h : PX w wr n A q c Am cm bx N A' q' c' Am' cm' L' V') (hlA : Lies w A) (hlM : Lies w Am) (x0 x1 x2 y0 y1 y2 : Value) :
    Below w.heap.size w ((((((wr.setCell ⟨w.heap.size + 1, 0, none⟩ x0).setCell ⟨w.heap.size + 1, 1, none⟩ x1).setCell ⟨w.heap.size + 1, 2, none⟩ x2).setCell ⟨w.heap.size + 2, 0, none⟩ y0).setCell ⟨w.heap.size + 2, 1, none⟩ y1).setCell ⟨w.heap.size + 2, 2, none⟩ y2) ∧ RO ((((((wr.setCell ⟨w.heap.size + 1, 0, none⟩ x0).setCell ⟨w.heap.size + 1, 1, none⟩ x1).setCell ⟨w.heap.size + 1, 2, none⟩ x2).setCell ⟨w.heap.size + 2, 0, none⟩ y0).setCell ⟨w.heap.size + 2, 1, none⟩ y1).setCell ⟨w.heap.size + 2, 2, none⟩ y2) N A' q' c' Am' cm' L' V' ∧ NewB w ((((((wr.setCell ⟨w.heap.size + 1, 0, none⟩ x0).setCell ⟨w.heap.size + 1, 1, none⟩ x1).setCell ⟨w.heap.size + 1, 2, none⟩ x2).setCell ⟨w.heap.size + 2, 0, none⟩ y0).setCell ⟨w.heap.size + 2, 1, none⟩ y1).setCell ⟨w.heap.size + 2, 2, none⟩ y2) A A' ∧ NewB w ((((((wr.setCell ⟨w.heap.size + 1, 0, none⟩ x0).setCell ⟨w.heap.size + 1, 1, none⟩ x1).setCell ⟨w.heap.size + 1, 2, none⟩ x2).setCell ⟨w.heap.size + 2, 0, none⟩ y0).setCell ⟨w.heap.size + 2, 1, none⟩ y1).setCell ⟨w.heap.size + 2, 2, none⟩ y2) Am Am' := by
  have f1 := far_of hlA h.na (g := w.heap.size + 1) (.inl (by omega))
  have f2 := far_of hlM h.nm (g := w.heap.size + 1) (.inl (by omega))
  have g1 := far_of hlA h.na (g := w.heap.size + 2) (.inl (by omega))
  have g2 := far_of hlM h.nm (g := w.heap.size + 2) (.inl (by omega))
  have s1 : ∀ (W : World) (i : Nat) (v : Value), Below w.heap.size w W → Below w.heap.size w (W.setCell ⟨w.heap.size + 1, i, none⟩ v) := fun W i v hW => hW.setCell (p := ⟨w.heap.size + 1, i, none⟩) (by show w.heap.size ≤ w.heap.size + 1; omega) v
  have s2 : ∀ (W : World) (i : Nat) (v : Value), Below w.heap.size w W → Below w.heap.size w (W.setCell ⟨w.heap.size + 2, i, none⟩ v) := fun W i v hW => hW.setCell (p := ⟨w.heap.size + 2, i, none⟩) (by show w.heap.size ≤ w.heap.size + 2; omega) v
  have nb : ∀ {A A2 : Option Addr}, (A2 = A ∨ ∀ b off, A2 = some ⟨b, off, none⟩ → w.heap.size + 3 ≤ b ∧ b ≠ bx) → Lies wr A2 → NewB w ((((((wr.setCell ⟨w.heap.size + 1, 0, none⟩ x0).setCell ⟨w.heap.size + 1, 1, none⟩ x1).setCell ⟨w.heap.size + 1, 2, none⟩ x2).setCell ⟨w.heap.size + 2, 0, none⟩ y0).setCell ⟨w.heap.size + 2, 1, none⟩ y1).setCell ⟨w.heap.size + 2, 2, none⟩ y2) A A2 := fun h hl => h.imp id fun h b off e => ⟨by have := h b off e; omega, by simpa using hl b off e⟩
  exact ⟨s2 _ _ _ (s2 _ _ _ (s2 _ _ _ (s1 _ _ _ (s1 _ _ _ (s1 _ _ _ h.low))))), (((((h.ro.set_ 0 _ f1 f2).set_ 1 _ f1 f2).set_ 2 _ f1 f2).set_ 0 _ g1 g2).set_ 1 _ g1 g2).set_ 2 _ g1 g2, nb h.na h.ro.la, nb h.nm h.ro.lm⟩
end
set_option maxRecDepth 100000 in
set_option maxHeartbeats 16000000 in
theorem rput_any (w : World) (n : Nat) (hn : n ≤ 5000) (L : List (List Int)) (P V : List Nat) (hst : OSt n L P V) (A : Option Addr) (q c : Nat) (Am : Option Addr) (cm : Nat) (hR : RO w n A q c Am cm L V) (hbig : q ≤ 50000) (more : Int) (hm : more ≤ 5000 ∨ 10000 < more) (Ae : Option Addr) (m ce : Nat) (es : List (Int × Int)) (hq : m = es.length) (hqm : m ≤ 50000) (hE : EdgesAt w w.heap.size Ae es) :
    Calls Try.prog 27 #[ov n A q c Am n cm, .int .i64 more, .slice Ae m ce] w (RPutOut w n A q c Am cm L P V more es) := by
  have HR0 := Lib.hid hR
  have HST := Lib.hid hst
  have HQ := Lib.hid hq
  have HE := Lib.hid hE
  have HLA := Lib.hid hR.la
  have HLM := Lib.hid hR.lm
  have hB0 : Below w.heap.size w (((w.alloc (.cells #[.int .i64 (n : Int), .slice A q c, .slice Am n cm] 55)).alloc (.cells #[.int .i64 0, .slice none 0 0, .slice none 0 0] 55)).alloc (.cells #[.int .i64 0, .slice none 0 0, .slice none 0 0] 55)) := (((Below.refl _ w).alloc (Nat.le_refl _) _).alloc (by simp) _).alloc (by simp; omega) _
  have h0 : Blk (((w.alloc (.cells #[.int .i64 (n : Int), .slice A q c, .slice Am n cm] 55)).alloc (.cells #[.int .i64 0, .slice none 0 0, .slice none 0 0] 55)).alloc (.cells #[.int .i64 0, .slice none 0 0, .slice none 0 0] 55)) w.heap.size 55 #[.int .i64 (n : Int), .slice A q c, .slice Am n cm] := ((Blk.new_ w _ _ rfl).alloc _).alloc _
  have h1 : Blk (((w.alloc (.cells #[.int .i64 (n : Int), .slice A q c, .slice Am n cm] 55)).alloc (.cells #[.int .i64 0, .slice none 0 0, .slice none 0 0] 55)).alloc (.cells #[.int .i64 0, .slice none 0 0, .slice none 0 0] 55)) (w.heap.size + 1) 55 #[.int .i64 0, .slice none 0 0, .slice none 0 0] := (Blk.new_ _ _ _ (by simp)).alloc _
  have h2 : Blk (((w.alloc (.cells #[.int .i64 (n : Int), .slice A q c, .slice Am n cm] 55)).alloc (.cells #[.int .i64 0, .slice none 0 0, .slice none 0 0] 55)).alloc (.cells #[.int .i64 0, .slice none 0 0, .slice none 0 0] 55)) (w.heap.size + 2) 55 #[.int .i64 0, .slice none 0 0, .slice none 0 0] := Blk.new_ _ _ _ (by simp)
  have hsz : (((w.alloc (.cells #[.int .i64 (n : Int), .slice A q c, .slice Am n cm] 55)).alloc (.cells #[.int .i64 0, .slice none 0 0, .slice none 0 0] 55)).alloc (.cells #[.int .i64 0, .slice none 0 0, .slice none 0 0] 55)).heap.size = w.heap.size + 3 := by simp
  have HB0 := Lib.hid (And.intro hB0 (And.intro h0 (And.intro h1 (And.intro h2 hsz))))
  have c0 := h0.at_ 0 rfl
  have c1 := h0.at_ 1 rfl
  have c2 := h0.at_ 2 rfl
  clear hR hst hq hE hB0 h0 h1 h2 hsz
  unfold ov
  go_enter Try.func27, Try.ntmps27
  go_wp2_with fail
  clear c0 c1 c2
  generalize (((w.alloc (.cells #[.int .i64 (n : Int), .slice A q c, .slice Am n cm] 55)).alloc (.cells #[.int .i64 0, .slice none 0 0, .slice none 0 0] 55)).alloc (.cells #[.int .i64 0, .slice none 0 0, .slice none 0 0] 55)) = w3 at *
  by_cases hk : canGrow n more = true
  · have HGR := Lib.hid (growR_yes (by omega) HST.out (HR0.out.below HB0.out.1) hk)
    unfold ov at HGR
    refine Calls.mono HGR.out ?_
    clear HGR
    rintro e w4 ⟨Am4, cm4, rfl, B4, R4, N4⟩
    have HK := Lib.hid hk
    have hmo : more.toNat ≤ 5000 := by
      unfold canGrow at hk
      rw [Bool.and_eq_true, decide_eq_true_eq, decide_eq_true_eq] at hk
      omega
    have HS4 := Lib.hid (show OSt (n + more.toNat) (growL L more.toNat) (gro P n more.toNat) (gro V n more.toNat) from ⟨HST.out.ok.grow _, HST.out.perm.gro _, HST.out.up.gro HST.out.ok HST.out.perm _⟩)
    obtain ⟨N, hN⟩ : ∃ N, N = n + more.toNat := ⟨_, rfl⟩
    have hN1 : n ≤ N := by omega
    have hN2 : N ≤ 10000 := by omega
    have HN := Lib.hid hN
    rw [← hN] at R4 HS4 ⊢
    generalize hLG : growL L more.toNat = LG at *
    generalize hPG : gro P n more.toNat = PG at *
    generalize hVG : gro V n more.toNat = VG at *
    have HLG := Lib.hid (And.intro hLG (And.intro hPG hVG))
    clear hLG hPG hVG
    have HX0 : Hid (PX w (w4.alloc (.cells #[.int .i64 (N : Int), .slice A q c, .slice Am4 N cm4] 55)) n A q c Am cm w4.heap.size N A q c Am4 cm4 LG VG) := Lib.hid (by
      obtain ⟨g1, g2, g3, g4, g5⟩ := HB0.out
      have hb : Below w3.heap.size w3 (w4.alloc (.cells #[.int .i64 (N : Int), .slice A q c, .slice Am4 N cm4] 55)) := B4.alloc B4.size _
      have hs4 := B4.size
      refine ⟨g1.trans (hb.mono g1.size), g2.below hb g2.lt, g3.below hb g3.lt, g4.below hb g4.lt, Blk.new_ w4 _ _ rfl, by omega, R4.below ((Below.refl _ w4).alloc (Nat.le_refl _) _), .inl rfl, ?_⟩
      exact N4.imp id fun h b off e => by have := h b off e; omega)
    generalize hw5 : w4.alloc (.cells #[.int .i64 (N : Int), .slice A q c, .slice Am4 N cm4] 55) = w5 at *
    generalize hbx : w4.heap.size = bx at *
    clear hk hN B4 R4 N4 HB0 hmo
    go_wp2_with fail
    clear hw5 hbx
    go_loopw [13] (fun iv wr => ∃ (i : Nat) (L' : List (List Int)) (P' V' : List Nat) (A' : Option Addr) (q' c' : Nat) (Am' : Option Addr) (cm' : Nat), i ≤ m ∧ iv = .int .i64 i ∧ q' ≤ q + i ∧ Hid (PX w wr n A q c Am cm bx N A' q' c' Am' cm' L' V' ∧ Ran N LG PG VG (es.take i) L' P' V')) (fun iv _ => m - (intOf iv).toNat)
    case atStart => exact ⟨0, LG, PG, VG, A, q, c, Am4, cm4, Nat.zero_le _, rfl, Nat.le_refl _, Lib.hid ⟨HX0.out, by rw [List.take_zero]; exact .nil _ _ _⟩⟩
    case round =>
      clear HX0
      obtain ⟨i, L', P', V', A', q', c', Am', cm', him, rfl, hqi, HI⟩ := hrel
      have HX := Lib.hid HI.out.1
      have HRN := Lib.hid HI.out.2
      have HSR := Lib.hid (HI.out.2.st HS4.out)
      clear HI
      by_cases hlt : i < m
      · have hil : i < es.length := by have := HQ.out; omega
        obtain ⟨b, off, rfl, hb, p1, p2⟩ := HE.out i hil
        have q1 := (HX.out.low.cell (p := ⟨b, _, none⟩) hb).trans p1
        have q2 := (HX.out.low.cell (p := ⟨b, _, none⟩) hb).trans p2
        have HTK : Hid (es.take (i + 1) = es.take i ++ [es[i]]) := Lib.hid (List.take_succ_eq_append_getElem hil)
        have HIL := Lib.hid hil
        have HEI : Hid (es[i]'hil = es[i]'hil) := Lib.hid rfl
        generalize hx : es[i] = x at *
        obtain ⟨u, v⟩ := x
        have HXE := Lib.hid hx
        have i1 : (0 : Int) ≤ (i : Int) := by omega
        have i2 : (i : Int) < (m : Int) := by omega
        clear p1 p2 hb hil hx HEI
        go_upto_region 7 with fail
        go_cut [14, 15, 16] (fun v14 v15 v16 wx => ∃ (wz : World) (b14 cc k : Nat) (L2 : List (List Int)) (P2 V2 : List Nat) (A2 : Option Addr) (q2 c2 : Nat) (Am2 : Option Addr) (cm2 : Nat), wz = wx ∧ v14 = .pointer (some ⟨b14, 0, none⟩) ∧ v15 = .int .i64 (cc : Nat) ∧ v16 = .int .i64 (k : Nat) ∧ q2 ≤ q' + 1 ∧ Hid (PutI N L' P' V' (u, v) cc k L2 P2 V2) ∧ Hid (Below wr.heap.size wr wz ∧ Blk wz b14 55 #[.int .i64 (N : Int), .slice A2 q2 c2, .slice Am2 N cm2] ∧ RO wz N A2 q2 c2 Am2 cm2 L2 V2 ∧ NewB wr wz A' A2 ∧ NewB wr wz Am' Am2))
        case first =>
          go_wp2_with fail
          have HXd := Lib.hid (HX.out.below ((Below.refl _ wr).drew))
          have HWD : Hid (Below wr.heap.size wr wr.drew) := Lib.hid ((Below.refl _ wr).drew)
          have q3 := (HWD.out.cell (p := ⟨b, _, none⟩) (GrW.lt_of_cell q1)).trans q1
          have q4 := (HWD.out.cell (p := ⟨b, _, none⟩) (GrW.lt_of_cell q2)).trans q2
          clear q1 q2
          have HCL : Hid (∀ W, Below wr.drew.heap.size wr.drew W → Blk W bx 55 #[.int .i64 (N : Int), .slice A' q' c', .slice Am' N cm'] ∧ W.cell? ⟨b, off + i * 2, none⟩ = some (.int .i64 u) ∧ W.cell? ⟨b, off + i * 2 + 1, none⟩ = some (.int .i64 v)) := Lib.hid (fun W hW => ⟨HXd.out.box.below hW HXd.out.box.lt, (hW.cell (p := ⟨b, _, none⟩) (GrW.lt_of_cell q3)).trans q3, (hW.cell (p := ⟨b, _, none⟩) (GrW.lt_of_cell q4)).trans q4⟩)
          clear q3 q4
          have hS : Below wr.drew.heap.size wr.drew wr.drew := Below.refl _ _
          refine wp_region_heldG [] (fun _ W => Below wr.drew.heap.size wr.drew W) (by kernel_rfl) ?_
          change wpAnyG _ _ _ _ _ _ 20 _ _ wr.drew
          generalize wr.drew = wd at *
          refine g_take (i := 0) rfl rfl (by kernel_rfl) (by kernel_rfl) (by kernel_rfl) (by kernel_rfl) (by kernel_rfl) (fun _ _ _ h => h) hS (fun L' W' hL hW => by obtain ⟨kb, k3, k4⟩ := HCL.out _ hW; have k0 := kb.at_ 0 rfl; have k1 := kb.at_ 1 rfl; have k2 := kb.at_ 2 rfl; go_simp; rfl) ?_
          refine g_take (i := 1) rfl rfl (by kernel_rfl) (by kernel_rfl) (by kernel_rfl) (by kernel_rfl) (by kernel_rfl) (fun _ _ _ h => h) hS (fun L' W' hL hW => by go_simp; rfl) ?_
          refine g_take (i := 2) rfl rfl (by kernel_rfl) (by kernel_rfl) (by kernel_rfl) (by kernel_rfl) (by kernel_rfl) (fun _ _ _ h => h) hS (fun L' W' hL hW => by go_simp; rfl) ?_
          refine g_take (i := 3) rfl rfl (by kernel_rfl) (by kernel_rfl) (by kernel_rfl) (by kernel_rfl) (by kernel_rfl) (fun _ _ _ h => h) hS (fun L' W' hL hW => by go_simp; rfl) ?_
          refine g_take (i := 4) rfl rfl (by kernel_rfl) (by kernel_rfl) (by kernel_rfl) (by kernel_rfl) (by kernel_rfl) (fun _ _ _ h => h) hS (fun L' W' hL hW => by go_simp; rfl) ?_
          refine g_take (i := 5) rfl rfl (by kernel_rfl) (by kernel_rfl) (by kernel_rfl) (by kernel_rfl) (by kernel_rfl) (fun _ _ _ h => h) hS (fun L' W' hL hW => by obtain ⟨kb, k3, k4⟩ := HCL.out _ hW; have k0 := kb.at_ 0 rfl; have k1 := kb.at_ 1 rfl; have k2 := kb.at_ 2 rfl; go_simp; rfl) ?_
          refine g_take (i := 6) rfl rfl (by kernel_rfl) (by kernel_rfl) (by kernel_rfl) (by kernel_rfl) (by kernel_rfl) (fun _ _ _ h => h) hS (fun L' W' hL hW => by go_simp; rfl) ?_
          refine g_take (i := 7) rfl rfl (by kernel_rfl) (by kernel_rfl) (by kernel_rfl) (by kernel_rfl) (by kernel_rfl) (fun _ _ _ h => h) hS (fun L' W' hL hW => by go_simp; rfl) ?_
          refine g_take (i := 8) rfl rfl (by kernel_rfl) (by kernel_rfl) (by kernel_rfl) (by kernel_rfl) (by kernel_rfl) (fun _ _ _ h => h) hS (fun L' W' hL hW => by go_simp; rfl) ?_
          refine g_take (i := 9) rfl rfl (by kernel_rfl) (by kernel_rfl) (by kernel_rfl) (by kernel_rfl) (by kernel_rfl) (fun _ _ _ h => h) hS (fun L' W' hL hW => by go_simp; rfl) ?_
          refine g_take (i := 10) rfl rfl (by kernel_rfl) (by kernel_rfl) (by kernel_rfl) (by kernel_rfl) (by kernel_rfl) (fun _ _ _ h => h) hS (fun L' W' hL hW => by obtain ⟨kb, k3, k4⟩ := HCL.out _ hW; have k0 := kb.at_ 0 rfl; have k1 := kb.at_ 1 rfl; have k2 := kb.at_ 2 rfl; go_simp; rfl) ?_
          refine g_two (i := 11) (j := 16) (by kernel_rfl) rfl rfl rfl rfl (fun K' hK => ?_) (fun K' hK => ?_)
          · go_simp
            have HPR := Lib.hid (putD_r (by omega) HSR.out (HXd.out.ro.below hS) (by omega) u v)
            unfold ov at HPR
            refine Calls.mono HPR.out ?_
            clear HPR
            rintro e w7 ⟨cc, k, L2, P2, V2, A2, q2, c2, Am2, cm2, rfl, D2, B7, R7, hq2, NA7, NM7⟩
            have hS7 : Below wd.heap.size wd w7 := hS.trans (B7.mono hS.size)
            refine hK _ _ hS7 ?_
            clear hK K'
            refine g_take (i := 12) rfl rfl (by kernel_rfl) (by kernel_rfl) (by kernel_rfl) (by kernel_rfl) (by kernel_rfl) (fun _ _ _ h => h) hS7 (fun L' W' hL hW => by go_simp; rfl) ?_
            refine g_take (i := 13) rfl rfl (by kernel_rfl) (by kernel_rfl) (by kernel_rfl) (by kernel_rfl) (by kernel_rfl) (fun _ _ _ h => h) hS7 (fun L' W' hL hW => by go_simp; rfl) ?_
            refine g_take (i := 14) rfl rfl (by kernel_rfl) (by kernel_rfl) (by kernel_rfl) (by kernel_rfl) (by kernel_rfl) (fun _ _ _ h => h) hS7 (fun L' W' hL hW => by go_simp; rfl) ?_
            refine g_take (i := 15) rfl rfl (by kernel_rfl) (by kernel_rfl) (by kernel_rfl) (by kernel_rfl) (by kernel_rfl) (fun _ _ _ h => h) hS7 (fun L' W' hL hW => by go_simp; rfl) ?_
            have hz : Blk (w7.alloc (.cells #[.int .i64 0, .slice none 0 0, .slice none 0 0] 55)) w7.heap.size 55 #[.int .i64 0, .slice none 0 0, .slice none 0 0] := Blk.new_ w7 55 #[.int .i64 0, .slice none 0 0, .slice none 0 0] rfl
            have hS8 : Below wd.heap.size wd (w7.alloc (.cells #[.int .i64 0, .slice none 0 0, .slice none 0 0] 55)) := hS7.alloc hS7.size _
            refine g_one (i := 16) rfl rfl (by kernel_rfl) fun K' hK => ?_
            go_simp
            refine hK _ _ hS8 ?_
            clear hK K'
            have hS9 : Below wd.heap.size wd (w7.alloc (.cells #[.int .i64 (N : Int), .slice A2 q2 c2, .slice Am2 N cm2] 55)) := hS7.alloc hS7.size _
            refine g_one (i := 17) rfl rfl (by kernel_rfl) fun K' hK => ?_
            go_simp
            refine hK _ _ hS9 ?_
            clear hK K'
            refine g_take (i := 18) rfl rfl (by kernel_rfl) (by kernel_rfl) (by kernel_rfl) (by kernel_rfl) (by kernel_rfl) (fun _ _ _ h => h) hS9 (fun L' W' hL hW => by go_simp; rfl) ?_
            refine g_take (i := 19) rfl rfl (by kernel_rfl) (by kernel_rfl) (by kernel_rfl) (by kernel_rfl) (by kernel_rfl) (fun _ _ _ h => h) hS9 (fun L' W' hL hW => by go_simp; rfl) ?_
            refine wpAnyG_done (by kernel_rfl) ?_ _
            have HPI := Lib.hid (PutD_i D2)
            have HWZ : Hid (Below wr.heap.size wr (w7.alloc (.cells #[.int .i64 (N : Int), .slice A2 q2 c2, .slice Am2 N cm2] 55)) ∧ Blk (w7.alloc (.cells #[.int .i64 (N : Int), .slice A2 q2 c2, .slice Am2 N cm2] 55)) w7.heap.size 55 #[.int .i64 (N : Int), .slice A2 q2 c2, .slice Am2 N cm2] ∧ RO (w7.alloc (.cells #[.int .i64 (N : Int), .slice A2 q2 c2, .slice Am2 N cm2] 55)) N A2 q2 c2 Am2 cm2 L2 V2 ∧ NewB wr (w7.alloc (.cells #[.int .i64 (N : Int), .slice A2 q2 c2, .slice Am2 N cm2] 55)) A' A2 ∧ NewB wr (w7.alloc (.cells #[.int .i64 (N : Int), .slice A2 q2 c2, .slice Am2 N cm2] 55)) Am' Am2) := Lib.hid ⟨HWD.out.trans (hS9.mono HWD.out.size), Blk.new_ w7 _ _ rfl, R7.below ((Below.refl _ w7).alloc (Nat.le_refl _) _), (NA7.on (by simp)).from (Nat.le_trans HWD.out.size hS.size), (NM7.on (by simp)).from (Nat.le_trans HWD.out.size hS.size)⟩
            clear hS hS7 hS8 hS9 hz HCL D2 B7 R7 NA7 NM7
            go_simp
            go_wp2_with fail
            go_meet
            exact ⟨_, w7.heap.size, cc, k, L2, P2, V2, A2, q2, c2, Am2, cm2, rfl, rfl, rfl, rfl, hq2, HPI, HWZ⟩
          · go_simp
            have hS1 : Below wd.heap.size wd (wd.alloc (.cells #[.int .i64 0, .slice none 0 0, .slice none 0 0] 55)) := hS.alloc hS.size _
            have HZ1 : Hid (Blk (wd.alloc (.cells #[.int .i64 0, .slice none 0 0, .slice none 0 0] 55)) wd.heap.size 55 #[.int .i64 0, .slice none 0 0, .slice none 0 0]) := Lib.hid (Blk.new_ wd 55 #[.int .i64 0, .slice none 0 0, .slice none 0 0] rfl)
            refine hK _ _ hS1 ?_
            clear hK K' hS
            have hS := hS1
            clear hS1
            generalize hwa : wd.alloc (.cells #[.int .i64 0, .slice none 0 0, .slice none 0 0] 55) = wa at *
            have HWA : Hid (wd.heap.size < wa.heap.size) := Lib.hid HZ1.out.lt
            clear hwa
            refine g_one (i := 11) rfl rfl (by kernel_rfl) fun K' hK => ?_
            go_simp
            have HPR := Lib.hid (putD_r (by omega) HSR.out (HXd.out.ro.below hS) (by omega) u v)
            unfold ov at HPR
            refine Calls.mono HPR.out ?_
            clear HPR
            rintro e w7 ⟨cc, k, L2, P2, V2, A2, q2, c2, Am2, cm2, rfl, D2, B7, R7, hq2, NA7, NM7⟩
            have hS7 : Below wd.heap.size wd w7 := hS.trans (B7.mono hS.size)
            refine hK _ _ hS7 ?_
            clear hK K'
            refine g_take (i := 12) rfl rfl (by kernel_rfl) (by kernel_rfl) (by kernel_rfl) (by kernel_rfl) (by kernel_rfl) (fun _ _ _ h => h) hS7 (fun L' W' hL hW => by go_simp; rfl) ?_
            refine g_take (i := 13) rfl rfl (by kernel_rfl) (by kernel_rfl) (by kernel_rfl) (by kernel_rfl) (by kernel_rfl) (fun _ _ _ h => h) hS7 (fun L' W' hL hW => by go_simp; rfl) ?_
            refine g_take (i := 14) rfl rfl (by kernel_rfl) (by kernel_rfl) (by kernel_rfl) (by kernel_rfl) (by kernel_rfl) (fun _ _ _ h => h) hS7 (fun L' W' hL hW => by go_simp; rfl) ?_
            refine g_take (i := 15) rfl rfl (by kernel_rfl) (by kernel_rfl) (by kernel_rfl) (by kernel_rfl) (by kernel_rfl) (fun _ _ _ h => h) hS7 (fun L' W' hL hW => by go_simp; rfl) ?_
            have hz := HZ1.out.below B7 HZ1.out.lt
            have rz0 := hz.at_ 0 rfl
            have rf0 := hz.frozen 0
            have rk1 := hz.set_ 0 (.int .i64 (N : Int))
            have rz1 := rk1.at_ 1 rfl
            have rf1 := rk1.frozen 1
            have rk2 := rk1.set_ 1 (.slice A2 q2 c2)
            have rz2 := rk2.at_ 2 rfl
            have rf2 := rk2.frozen 2
            have rk3 := rk2.set_ 2 (.slice Am2 N cm2)
            have hlo : wd.heap.size ≤ wd.heap.size := Nat.le_refl _
            have sc : ∀ (W : World) (i : Nat) (v : Value), Below wd.heap.size wd W → Below wd.heap.size wd (W.setCell ⟨wd.heap.size, i, none⟩ v) := fun W i v hW => hW.setCell (p := ⟨wd.heap.size, i, none⟩) hlo v
            have hS9 : Below wd.heap.size wd (((w7.setCell ⟨wd.heap.size, 0, none⟩ (.int .i64 (N : Int))).setCell ⟨wd.heap.size, 1, none⟩ (.slice A2 q2 c2)).setCell ⟨wd.heap.size, 2, none⟩ (.slice Am2 N cm2)) := sc _ _ _ (sc _ _ _ (sc _ _ _ hS7))
            clear rk1 rk2
            refine g_one (i := 17) rfl rfl (by kernel_rfl) fun K' hK => ?_
            go_simp
            refine hK _ _ hS9 ?_
            clear hK K' rz0 rz1 rz2 rf0 rf1 rf2
            refine g_take (i := 18) rfl rfl (by kernel_rfl) (by kernel_rfl) (by kernel_rfl) (by kernel_rfl) (by kernel_rfl) (fun _ _ _ h => h) hS9 (fun L' W' hL hW => by go_simp; rfl) ?_
            refine g_take (i := 19) rfl rfl (by kernel_rfl) (by kernel_rfl) (by kernel_rfl) (by kernel_rfl) (by kernel_rfl) (fun _ _ _ h => h) hS9 (fun L' W' hL hW => by go_simp; rfl) ?_
            refine wpAnyG_done (by kernel_rfl) ?_ _
            have HPI := Lib.hid (PutD_i D2)
            have HWZ : Hid (Below wr.heap.size wr (((w7.setCell ⟨wd.heap.size, 0, none⟩ (.int .i64 (N : Int))).setCell ⟨wd.heap.size, 1, none⟩ (.slice A2 q2 c2)).setCell ⟨wd.heap.size, 2, none⟩ (.slice Am2 N cm2)) ∧ Blk (((w7.setCell ⟨wd.heap.size, 0, none⟩ (.int .i64 (N : Int))).setCell ⟨wd.heap.size, 1, none⟩ (.slice A2 q2 c2)).setCell ⟨wd.heap.size, 2, none⟩ (.slice Am2 N cm2)) wd.heap.size 55 #[.int .i64 (N : Int), .slice A2 q2 c2, .slice Am2 N cm2] ∧ RO (((w7.setCell ⟨wd.heap.size, 0, none⟩ (.int .i64 (N : Int))).setCell ⟨wd.heap.size, 1, none⟩ (.slice A2 q2 c2)).setCell ⟨wd.heap.size, 2, none⟩ (.slice Am2 N cm2)) N A2 q2 c2 Am2 cm2 L2 V2 ∧ NewB wr (((w7.setCell ⟨wd.heap.size, 0, none⟩ (.int .i64 (N : Int))).setCell ⟨wd.heap.size, 1, none⟩ (.slice A2 q2 c2)).setCell ⟨wd.heap.size, 2, none⟩ (.slice Am2 N cm2)) A' A2 ∧ NewB wr (((w7.setCell ⟨wd.heap.size, 0, none⟩ (.int .i64 (N : Int))).setCell ⟨wd.heap.size, 1, none⟩ (.slice A2 q2 c2)).setCell ⟨wd.heap.size, 2, none⟩ (.slice Am2 N cm2)) Am' Am2) := Lib.hid (by
              have hwa := HWA.out
              have hA : ∀ off, A2 ≠ some ⟨wd.heap.size, off, none⟩ := fun off e => by
                rcases NA7 with rfl | h
                · have := HXd.out.ro.la _ _ e; omega
                · have := h _ _ e; omega
              have hM : ∀ off, Am2 ≠ some ⟨wd.heap.size, off, none⟩ := fun off e => by
                rcases NM7 with rfl | h
                · have := HXd.out.ro.lm _ _ e; omega
                · have := h _ _ e; omega
              refine ⟨HWD.out.trans (hS9.mono HWD.out.size), rk3, ((R7.set_ 0 _ hA hM).set_ 1 _ hA hM).set_ 2 _ hA hM, ?_, ?_⟩
              · exact (NA7.on (by simp)).from (Nat.le_trans HWD.out.size (Nat.le_of_lt hwa))
              · exact (NM7.on (by simp)).from (Nat.le_trans HWD.out.size (Nat.le_of_lt hwa)))
            clear hS hS7 hS9 rk3 hz hlo sc HCL D2 B7 R7 NA7 NM7
            go_simp
            go_wp2_with fail
            go_meet
            exact ⟨_, wd.heap.size, cc, k, L2, P2, V2, A2, q2, c2, Am2, cm2, rfl, rfl, rfl, rfl, hq2, HPI, HWZ⟩
        case rest =>
        clear q1 q2
        obtain ⟨wz, b14, cc, k, L2, P2, V2, A2, q2, c2, Am2, cm2, hwx, rfl, rfl, rfl, hq2, HPI, HWZ⟩ := hcut
        subst hwx
        by_cases hk0 : k = 0
        · subst hk0
          have HX2 := Lib.hid (HX.out.upd HLA.out HLM.out HWZ.out.1 HWZ.out.2.2.1 HWZ.out.2.2.2.1 HWZ.out.2.2.2.2)
          have HR2 : Hid (Ran N LG PG VG (es.take (i + 1)) L2 P2 V2) := Lib.hid (by rw [HTK.out]; exact .snoc HRN.out HPI.out)
          have hbz := HX.out.box.below HWZ.out.1 HX.out.box.lt
          have hgz := HWZ.out.2.1
          have y0 := hgz.at_ 0 rfl
          have y1 := hgz.at_ 1 rfl
          have y2 := hgz.at_ 2 rfl
          have x0 := hbz.at_ 0 rfl
          have f0 := hbz.frozen 0
          have k1 := hbz.set_ 0 (.int .i64 (N : Int))
          have x1 := k1.at_ 1 rfl
          have f1 := k1.frozen 1
          have k2 := k1.set_ 1 (.slice A2 q2 c2)
          have x2 := k2.at_ 2 rfl
          have f2 := k2.frozen 2
          have HNX : Hid (PX w _ n A q c Am cm bx N A2 q2 c2 Am2 cm2 L2 V2 ∧ Ran N LG PG VG (es.take (i + 1)) L2 P2 V2) := Lib.hid ⟨HX2.out, HR2.out⟩
          clear k1 k2 hbz hgz HX2 HR2 HWZ HX HRN HPI HTK HSR
          go_wp2_with fail
          go_roundw
          case rel => exact ⟨i + 1, L2, P2, V2, A2, q2, c2, Am2, cm2, by omega, by go_num, by omega, HNX⟩
          case measure => simp [intOf]; omega
        · have k0 : ((k : Int) == 0) = false := by rw [beq_eq_false_iff_ne]; omega
          have k0' : ((k : Int) != 0) = true := by simp; omega
          have HKN := Lib.hid hk0
          have HX2 := Lib.hid (HX.out.below HWZ.out.1)
          clear HX hk0
          have HX := HX2
          clear HX2 HWZ
          generalize hwz : wz = wr2 at *
          clear hwz
          go_upto_region 9 with fail
          have HL := Lib.hid (HX.out.below ((Below.refl _ wr2).drew))
          have hS : Blk wr2.drew w.heap.size 55 #[.int .i64 (n : Int), .slice A q c, .slice Am n cm] ∧ Blk wr2.drew bx 55 #[.int .i64 (N : Int), .slice A' q' c', .slice Am' N cm'] := ⟨HL.out.b0, HL.out.box⟩
          refine wp_region_heldG [] (fun _ W => Blk W w.heap.size 55 #[.int .i64 (n : Int), .slice A q c, .slice Am n cm] ∧ Blk W bx 55 #[.int .i64 (N : Int), .slice A' q' c', .slice Am' N cm']) (by kernel_rfl) ?_
          change wpAnyG _ _ _ _ _ _ 9 _ _ wr2.drew
          generalize wr2.drew = wd at *
          refine g_take (i := 0) rfl rfl (by kernel_rfl) (by kernel_rfl) (by kernel_rfl) (by kernel_rfl) (by kernel_rfl) (fun _ _ _ h => h) hS (fun L' W' hL hW => by have k0 := hW.1.at_ 0 rfl; have k1 := hW.1.at_ 1 rfl; have k2 := hW.1.at_ 2 rfl; go_simp; rfl) ?_
          refine g_take (i := 1) rfl rfl (by kernel_rfl) (by kernel_rfl) (by kernel_rfl) (by kernel_rfl) (by kernel_rfl) (fun _ _ _ h => h) hS (fun L' W' hL hW => by have k0 := hW.2.at_ 0 rfl; have k1 := hW.2.at_ 1 rfl; have k2 := hW.2.at_ 2 rfl; go_simp; rfl) ?_
          refine g_take (i := 2) rfl rfl (by kernel_rfl) (by kernel_rfl) (by kernel_rfl) (by kernel_rfl) (by kernel_rfl) (fun _ _ _ h => h) hS (fun L' W' hL hW => by go_simp; rfl) ?_
          refine g_take (i := 3) rfl rfl (by kernel_rfl) (by kernel_rfl) (by kernel_rfl) (by kernel_rfl) (by kernel_rfl) (fun _ _ _ h => h) hS (fun L' W' hL hW => by go_simp; rfl) ?_
          have hb1 := HL.out.b1
          have hb2 := HL.out.b2
          have hbl := HL.out.bl
          have rz0 := hb1.at_ 0 rfl
          have rf0 := hb1.frozen 0
          have rk1 := hb1.set_ 0 (.int .i64 (n : Int))
          have rz1 := rk1.at_ 1 rfl
          have rf1 := rk1.frozen 1
          have rk2 := rk1.set_ 1 (.slice A q c)
          have rz2 := rk2.at_ 2 rfl
          have rf2 := rk2.frozen 2
          have rk3 := rk2.set_ 2 (.slice Am n cm)
          have hS2 : Blk (((wd.setCell ⟨w.heap.size + 1, 0, none⟩ (.int .i64 (n : Int))).setCell ⟨w.heap.size + 1, 1, none⟩ (.slice A q c)).setCell ⟨w.heap.size + 1, 2, none⟩ (.slice Am n cm)) w.heap.size 55 #[.int .i64 (n : Int), .slice A q c, .slice Am n cm] ∧ Blk (((wd.setCell ⟨w.heap.size + 1, 0, none⟩ (.int .i64 (n : Int))).setCell ⟨w.heap.size + 1, 1, none⟩ (.slice A q c)).setCell ⟨w.heap.size + 1, 2, none⟩ (.slice Am n cm)) bx 55 #[.int .i64 (N : Int), .slice A' q' c', .slice Am' N cm'] := ⟨((hS.1.farN (by omega) _).farN (by omega) _).farN (by omega) _, ((hS.2.farN (by omega) _).farN (by omega) _).farN (by omega) _⟩
          have hc2 : Blk (((wd.setCell ⟨w.heap.size + 1, 0, none⟩ (.int .i64 (n : Int))).setCell ⟨w.heap.size + 1, 1, none⟩ (.slice A q c)).setCell ⟨w.heap.size + 1, 2, none⟩ (.slice Am n cm)) (w.heap.size + 2) 55 #[.int .i64 0, .slice none 0 0, .slice none 0 0] := ((hb2.farN (by omega) _).farN (by omega) _).farN (by omega) _
          clear rk1 rk2
          refine g_one (i := 4) rfl rfl (by kernel_rfl) fun K' hK => ?_
          go_simp
          refine hK _ _ hS2 ?_
          clear hK K' rz0 rz1 rz2 rf0 rf1 rf2
          refine g_take (i := 5) rfl rfl (by kernel_rfl) (by kernel_rfl) (by kernel_rfl) (by kernel_rfl) (by kernel_rfl) (fun _ _ _ h => h) hS2 (fun L' W' hL hW => by go_simp; rfl) ?_
          have sz0 := hc2.at_ 0 rfl
          have sf0 := hc2.frozen 0
          have sk1 := hc2.set_ 0 (.int .i64 (N : Int))
          have sz1 := sk1.at_ 1 rfl
          have sf1 := sk1.frozen 1
          have sk2 := sk1.set_ 1 (.slice A' q' c')
          have sz2 := sk2.at_ 2 rfl
          have sf2 := sk2.frozen 2
          have sk3 := sk2.set_ 2 (.slice Am' N cm')
          have hS3 : Blk ((((((wd.setCell ⟨w.heap.size + 1, 0, none⟩ (.int .i64 (n : Int))).setCell ⟨w.heap.size + 1, 1, none⟩ (.slice A q c)).setCell ⟨w.heap.size + 1, 2, none⟩ (.slice Am n cm)).setCell ⟨w.heap.size + 2, 0, none⟩ (.int .i64 (N : Int))).setCell ⟨w.heap.size + 2, 1, none⟩ (.slice A' q' c')).setCell ⟨w.heap.size + 2, 2, none⟩ (.slice Am' N cm')) w.heap.size 55 #[.int .i64 (n : Int), .slice A q c, .slice Am n cm] ∧ Blk ((((((wd.setCell ⟨w.heap.size + 1, 0, none⟩ (.int .i64 (n : Int))).setCell ⟨w.heap.size + 1, 1, none⟩ (.slice A q c)).setCell ⟨w.heap.size + 1, 2, none⟩ (.slice Am n cm)).setCell ⟨w.heap.size + 2, 0, none⟩ (.int .i64 (N : Int))).setCell ⟨w.heap.size + 2, 1, none⟩ (.slice A' q' c')).setCell ⟨w.heap.size + 2, 2, none⟩ (.slice Am' N cm')) bx 55 #[.int .i64 (N : Int), .slice A' q' c', .slice Am' N cm'] := ⟨((hS2.1.farN (by omega) _).farN (by omega) _).farN (by omega) _, ((hS2.2.farN (by omega) _).farN (by omega) _).farN (by omega) _⟩
          have HR1 := Lib.hid (((rk3.farN (b := w.heap.size + 2) (o := 0) (by omega) (.int .i64 (N : Int))).farN (b := w.heap.size + 2) (o := 1) (by omega) (.slice A' q' c')).farN (b := w.heap.size + 2) (o := 2) (by omega) (.slice Am' N cm'))
          have HR2 := Lib.hid sk3
          clear sk1 sk2
          refine g_one (i := 6) rfl rfl (by kernel_rfl) fun K' hK => ?_
          go_simp
          refine hK _ _ hS3 ?_
          clear hK K' sz0 sz1 sz2 sf0 sf1 sf2
          refine g_take (i := 7) rfl rfl (by kernel_rfl) (by kernel_rfl) (by kernel_rfl) (by kernel_rfl) (by kernel_rfl) (fun _ _ _ h => h) hS3 (fun L' W' hL hW => by go_simp; rfl) ?_
          refine g_take (i := 8) rfl rfl (by kernel_rfl) (by kernel_rfl) (by kernel_rfl) (by kernel_rfl) (by kernel_rfl) (fun _ _ _ h => h) hS3 (fun L' W' hL hW => by go_simp; rfl) ?_
          refine wpAnyG_done (by kernel_rfl) ?_ _
          have HFIN := Lib.hid (HL.out.fin HLA.out HLM.out (.int .i64 (n : Int)) (.slice A q c) (.slice Am n cm) (.int .i64 (N : Int)) (.slice A' q' c') (.slice Am' N cm'))
          clear hS hS2 hS3 rk3 sk3 hb1 hb2 hbl hc2
          go_simp
          go_wp2_with fail
          refine bodyPost_ret (results_cell5 rfl _ _ (w.heap.size + 1) (w.heap.size + 2) 55 55 #[.int .i64 (n : Int), .slice A q c, .slice Am n cm] #[.int .i64 (N : Int), .slice A' q' c', .slice Am' N cm'] (0, 0) (0, 0) _ rfl HR1.out.out rfl HR2.out.out Try.underlying55 rfl (by kernel_rfl) (by kernel_rfl)) rfl ?_
          refine ⟨HFIN.out.1, .inr ⟨HK.out, N, i, k, L', P', V', A', q', c', Am', cm', HN.out, ?_, HFIN.out.2.1, by have := HQ.out; omega, HFIN.out.2.2.1, HFIN.out.2.2.2, .inl ⟨HKN.out, rfl⟩⟩⟩
          rw [HLG.out.1, HLG.out.2.1, HLG.out.2.2]
          have hcc := HPI.out.same HKN.out
          rw [hcc.1] at HPI
          have hpx : PutI N L' P' V' (es[i]'HIL.out) 0 k L2 P2 V2 := by
            have h1 : es[i]'HIL.out = (u, v) := HXE.out
            rw [h1]
            exact HPI.out
          exact .inr ⟨HKN.out, HIL.out, HRN.out, L2, P2, V2, hpx⟩
      · have him2 : i = m := by omega
        have i2 : ¬ (i : Int) < (m : Int) := by omega
        subst him2
        have HW9 := Lib.hid (Below.refl wr.heap.size wr)
        have HPN := Lib.hid HSR.out.perm
        have HVL : Hid (N = (zs V').length) := Lib.hid (by rw [zs_length, HSR.out.perm.la])
        have HVL0 : Hid (n = (zs V).length) := Lib.hid (by rw [zs_length, HST.out.perm.la])
        generalize hwr : wr = w9 at *
        clear hwr
        go_wp2_with fail
        go_loopw [17, 18] (fun vc jv wr => ∃ j d : Nat, j ≤ n ∧ d ≤ j ∧ jv = .int .i64 j ∧ vc = .int .i64 (d : Nat) ∧ Hid (d = rch P P' j ∧ Below w9.heap.size w9 wr)) (fun _ jv _ => n - (intOf jv).toNat)
        case atStart => exact ⟨0, 0, Nat.zero_le _, Nat.le_refl _, rfl, rfl, Lib.hid ⟨rfl, Below.refl _ _⟩⟩
        case round =>
          obtain ⟨j, d, hj, hd, rfl, rfl, HJ⟩ := hrel
          have HXj := Lib.hid (HX.out.below HJ.out.2)
          have c0 := HXj.out.b0.at_ 0 rfl
          by_cases hlt2 : j < n
          · have i3 : (j : Int) < (n : Int) := by omega
            have HP1 := Lib.hid (idx_perm HPN.out (show j < N by omega))
            have HP2 := Lib.hid (idx_perm HST.out.perm hlt2)
            have HRS := Lib.hid (rch_succ P P' j)
            generalize P'.getD j 0 = pj at *
            generalize P.getD j 0 = oj at *
            by_cases hpo : pj = oj
            · have hbe : ((pj : Int) == (oj : Int)) = true := by rw [beq_iff_eq, hpo]
              go_upto_region 15 with fail
              clear c0
              have HCL : Hid (∀ W, Below wr.heap.size wr W → Blk W w.heap.size 55 #[.int .i64 (n : Int), .slice A q c, .slice Am n cm] ∧ Blk W bx 55 #[.int .i64 (N : Int), .slice A' q' c', .slice Am' N cm'] ∧ Nums W W.heap.size Am' (zs V') ∧ Nums W W.heap.size Am (zs V)) := Lib.hid (fun W hW => ⟨HXj.out.b0.below hW HXj.out.b0.lt, HXj.out.box.below hW HXj.out.box.lt, HXj.out.ro.nums.grow hW, (HR0.out.below (HXj.out.low.trans (hW.mono HXj.out.low.size))).nums⟩)
              have hS : Below wr.heap.size wr wr.drew := (Below.refl _ wr).drew
              refine wp_region_heldG [] (fun _ W => Below wr.heap.size wr W) (by kernel_rfl) ?_
              change wpAnyG _ _ _ _ _ _ 7 _ _ wr.drew
              refine g_take (i := 0) rfl rfl (by kernel_rfl) (by kernel_rfl) (by kernel_rfl) (by kernel_rfl) (by kernel_rfl) (fun _ _ _ h => h) hS (fun L' W' hL hW => by obtain ⟨kb, kx, -, -⟩ := HCL.out _ hW; have k0 := kx.at_ 0 rfl; have k1 := kx.at_ 1 rfl; have k2 := kx.at_ 2 rfl; go_simp; rfl) ?_
              refine g_take (i := 1) rfl rfl (by kernel_rfl) (by kernel_rfl) (by kernel_rfl) (by kernel_rfl) (by kernel_rfl) (fun _ _ _ h => h) hS (fun L' W' hL hW => by go_simp; rfl) ?_
              refine g_take (i := 3) rfl rfl (by kernel_rfl) (by kernel_rfl) (by kernel_rfl) (by kernel_rfl) (by kernel_rfl) (fun _ _ _ h => h) hS (fun L' W' hL hW => by obtain ⟨kb, kx, -, -⟩ := HCL.out _ hW; have k0 := kb.at_ 0 rfl; have k1 := kb.at_ 1 rfl; have k2 := kb.at_ 2 rfl; go_simp; rfl) ?_
              refine g_take (i := 4) rfl rfl (by kernel_rfl) (by kernel_rfl) (by kernel_rfl) (by kernel_rfl) (by kernel_rfl) (fun _ _ _ h => h) hS (fun L' W' hL hW => by go_simp; rfl) ?_
              refine g_one (i := 2) rfl rfl (by kernel_rfl) fun K' hK => ?_
              go_simp
              refine Calls.mono (placeR_any _ N A' q' c' Am' N cm' (zs V') HVL.out (by omega) (HCL.out _ hS).2.2.1 (j : Int)) ?_
              rintro e wa ⟨rfl, B5⟩
              rw [HP1.out]
              have hS : Below wr.heap.size wr wa := hS.trans (B5.mono hS.size)
              refine hK _ _ hS ?_
              clear hK K' B5
              refine g_one (i := 5) rfl rfl (by kernel_rfl) fun K' hK => ?_
              go_simp
              refine Calls.mono (placeR_any _ n A q c Am n cm (zs V) HVL0.out (by omega) (HCL.out _ hS).2.2.2 (j : Int)) ?_
              rintro e wb ⟨rfl, B5⟩
              rw [HP2.out]
              have hS : Below wr.heap.size wr wb := hS.trans (B5.mono hS.size)
              refine hK _ _ hS ?_
              clear hK K' B5
              refine g_take (i := 6) rfl rfl (by kernel_rfl) (by kernel_rfl) (by kernel_rfl) (by kernel_rfl) (by kernel_rfl) (fun _ _ _ h => h) hS (fun L' W' hL hW => by go_simp; rfl) ?_
              refine wpAnyG_done (by kernel_rfl) ?_ _
              have HJ2 := Lib.hid (HJ.out.2.trans (hS.mono HJ.out.2.size))
              clear hS HCL HP1 HP2
              have HNJ : Hid (d = rch P P' (j + 1) ∧ Below w9.heap.size w9 wb) := Lib.hid ⟨by rw [HRS.out, if_neg (by simpa using hpo), ← HJ.out.1]; rfl, HJ2.out⟩
              clear HRS hpo HJ HJ2 HXj
              go_simp
              go_wp2_with fail
              go_roundw
              case rel => exact ⟨j + 1, d, by omega, by omega, by go_num, rfl, HNJ⟩
              case measure => simp [intOf]; omega
            · have hbe : ((pj : Int) == (oj : Int)) = false := by rw [beq_eq_false_iff_ne]; omega
              go_upto_region 15 with fail
              clear c0
              have HCL : Hid (∀ W, Below wr.heap.size wr W → Blk W w.heap.size 55 #[.int .i64 (n : Int), .slice A q c, .slice Am n cm] ∧ Blk W bx 55 #[.int .i64 (N : Int), .slice A' q' c', .slice Am' N cm'] ∧ Nums W W.heap.size Am' (zs V') ∧ Nums W W.heap.size Am (zs V)) := Lib.hid (fun W hW => ⟨HXj.out.b0.below hW HXj.out.b0.lt, HXj.out.box.below hW HXj.out.box.lt, HXj.out.ro.nums.grow hW, (HR0.out.below (HXj.out.low.trans (hW.mono HXj.out.low.size))).nums⟩)
              have hS : Below wr.heap.size wr wr.drew := (Below.refl _ wr).drew
              refine wp_region_heldG [] (fun _ W => Below wr.heap.size wr W) (by kernel_rfl) ?_
              change wpAnyG _ _ _ _ _ _ 7 _ _ wr.drew
              refine g_take (i := 0) rfl rfl (by kernel_rfl) (by kernel_rfl) (by kernel_rfl) (by kernel_rfl) (by kernel_rfl) (fun _ _ _ h => h) hS (fun L' W' hL hW => by obtain ⟨kb, kx, -, -⟩ := HCL.out _ hW; have k0 := kx.at_ 0 rfl; have k1 := kx.at_ 1 rfl; have k2 := kx.at_ 2 rfl; go_simp; rfl) ?_
              refine g_take (i := 1) rfl rfl (by kernel_rfl) (by kernel_rfl) (by kernel_rfl) (by kernel_rfl) (by kernel_rfl) (fun _ _ _ h => h) hS (fun L' W' hL hW => by go_simp; rfl) ?_
              refine g_take (i := 3) rfl rfl (by kernel_rfl) (by kernel_rfl) (by kernel_rfl) (by kernel_rfl) (by kernel_rfl) (fun _ _ _ h => h) hS (fun L' W' hL hW => by obtain ⟨kb, kx, -, -⟩ := HCL.out _ hW; have k0 := kb.at_ 0 rfl; have k1 := kb.at_ 1 rfl; have k2 := kb.at_ 2 rfl; go_simp; rfl) ?_
              refine g_take (i := 4) rfl rfl (by kernel_rfl) (by kernel_rfl) (by kernel_rfl) (by kernel_rfl) (by kernel_rfl) (fun _ _ _ h => h) hS (fun L' W' hL hW => by go_simp; rfl) ?_
              refine g_one (i := 2) rfl rfl (by kernel_rfl) fun K' hK => ?_
              go_simp
              refine Calls.mono (placeR_any _ N A' q' c' Am' N cm' (zs V') HVL.out (by omega) (HCL.out _ hS).2.2.1 (j : Int)) ?_
              rintro e wa ⟨rfl, B5⟩
              rw [HP1.out]
              have hS : Below wr.heap.size wr wa := hS.trans (B5.mono hS.size)
              refine hK _ _ hS ?_
              clear hK K' B5
              refine g_one (i := 5) rfl rfl (by kernel_rfl) fun K' hK => ?_
              go_simp
              refine Calls.mono (placeR_any _ n A q c Am n cm (zs V) HVL0.out (by omega) (HCL.out _ hS).2.2.2 (j : Int)) ?_
              rintro e wb ⟨rfl, B5⟩
              rw [HP2.out]
              have hS : Below wr.heap.size wr wb := hS.trans (B5.mono hS.size)
              refine hK _ _ hS ?_
              clear hK K' B5
              refine g_take (i := 6) rfl rfl (by kernel_rfl) (by kernel_rfl) (by kernel_rfl) (by kernel_rfl) (by kernel_rfl) (fun _ _ _ h => h) hS (fun L' W' hL hW => by go_simp; rfl) ?_
              refine wpAnyG_done (by kernel_rfl) ?_ _
              have HJ2 := Lib.hid (HJ.out.2.trans (hS.mono HJ.out.2.size))
              clear hS HCL HP1 HP2
              have HNJ : Hid (d + 1 = rch P P' (j + 1) ∧ Below w9.heap.size w9 wb) := Lib.hid ⟨by rw [HRS.out, if_pos hpo, ← HJ.out.1], HJ2.out⟩
              clear HRS hpo HJ HJ2 HXj
              go_simp
              go_wp2_with fail
              go_roundw
              case rel => exact ⟨j + 1, d + 1, by omega, by omega, by go_num, by go_num, HNJ⟩
              case measure => simp [intOf]; omega
          · have hjn : j = n := by omega
            have i3 : ¬ (j : Int) < (n : Int) := by omega
            have HXk := HXj
            clear HX HXj HW9
            have HX := HXk
            clear HXk
            go_upto_region 17 with fail
            clear c0
            have HL := Lib.hid (HX.out.below ((Below.refl _ wr).drew))
            have hS : Blk wr.drew w.heap.size 55 #[.int .i64 (n : Int), .slice A q c, .slice Am n cm] ∧ Blk wr.drew bx 55 #[.int .i64 (N : Int), .slice A' q' c', .slice Am' N cm'] := ⟨HL.out.b0, HL.out.box⟩
            refine wp_region_heldG [] (fun _ W => Blk W w.heap.size 55 #[.int .i64 (n : Int), .slice A q c, .slice Am n cm] ∧ Blk W bx 55 #[.int .i64 (N : Int), .slice A' q' c', .slice Am' N cm']) (by kernel_rfl) ?_
            change wpAnyG _ _ _ _ _ _ 10 _ _ wr.drew
            generalize wr.drew = wd at *
            refine g_take (i := 0) rfl rfl (by kernel_rfl) (by kernel_rfl) (by kernel_rfl) (by kernel_rfl) (by kernel_rfl) (fun _ _ _ h => h) hS (fun L' W' hL hW => by have k0 := hW.2.at_ 0 rfl; have k1 := hW.2.at_ 1 rfl; have k2 := hW.2.at_ 2 rfl; go_simp; rfl) ?_
            refine g_take (i := 1) rfl rfl (by kernel_rfl) (by kernel_rfl) (by kernel_rfl) (by kernel_rfl) (by kernel_rfl) (fun _ _ _ h => h) hS (fun L' W' hL hW => by go_simp; rfl) ?_
            refine g_take (i := 2) rfl rfl (by kernel_rfl) (by kernel_rfl) (by kernel_rfl) (by kernel_rfl) (by kernel_rfl) (fun _ _ _ h => h) hS (fun L' W' hL hW => by have k0 := hW.2.at_ 0 rfl; have k1 := hW.2.at_ 1 rfl; have k2 := hW.2.at_ 2 rfl; go_simp; rfl) ?_
            refine g_take (i := 3) rfl rfl (by kernel_rfl) (by kernel_rfl) (by kernel_rfl) (by kernel_rfl) (by kernel_rfl) (fun _ _ _ h => h) hS (fun L' W' hL hW => by go_simp; rfl) ?_
            refine g_take (i := 4) rfl rfl (by kernel_rfl) (by kernel_rfl) (by kernel_rfl) (by kernel_rfl) (by kernel_rfl) (fun _ _ _ h => h) hS (fun L' W' hL hW => by go_simp; rfl) ?_
            have hb1 := HL.out.b1
            have hb2 := HL.out.b2
            have hbl := HL.out.bl
            have rz0 := hb1.at_ 0 rfl
            have rf0 := hb1.frozen 0
            have rk1 := hb1.set_ 0 (.int .i64 (N : Int))
            have rz1 := rk1.at_ 1 rfl
            have rf1 := rk1.frozen 1
            have rk2 := rk1.set_ 1 (.slice A' q' c')
            have rz2 := rk2.at_ 2 rfl
            have rf2 := rk2.frozen 2
            have rk3 := rk2.set_ 2 (.slice Am' N cm')
            have hS2 : Blk (((wd.setCell ⟨w.heap.size + 1, 0, none⟩ (.int .i64 (N : Int))).setCell ⟨w.heap.size + 1, 1, none⟩ (.slice A' q' c')).setCell ⟨w.heap.size + 1, 2, none⟩ (.slice Am' N cm')) w.heap.size 55 #[.int .i64 (n : Int), .slice A q c, .slice Am n cm] ∧ Blk (((wd.setCell ⟨w.heap.size + 1, 0, none⟩ (.int .i64 (N : Int))).setCell ⟨w.heap.size + 1, 1, none⟩ (.slice A' q' c')).setCell ⟨w.heap.size + 1, 2, none⟩ (.slice Am' N cm')) bx 55 #[.int .i64 (N : Int), .slice A' q' c', .slice Am' N cm'] := ⟨((hS.1.farN (by omega) _).farN (by omega) _).farN (by omega) _, ((hS.2.farN (by omega) _).farN (by omega) _).farN (by omega) _⟩
            have hc2 : Blk (((wd.setCell ⟨w.heap.size + 1, 0, none⟩ (.int .i64 (N : Int))).setCell ⟨w.heap.size + 1, 1, none⟩ (.slice A' q' c')).setCell ⟨w.heap.size + 1, 2, none⟩ (.slice Am' N cm')) (w.heap.size + 2) 55 #[.int .i64 0, .slice none 0 0, .slice none 0 0] := ((hb2.farN (by omega) _).farN (by omega) _).farN (by omega) _
            clear rk1 rk2
            refine g_one (i := 5) rfl rfl (by kernel_rfl) fun K' hK => ?_
            go_simp
            refine hK _ _ hS2 ?_
            clear hK K' rz0 rz1 rz2 rf0 rf1 rf2
            refine g_take (i := 6) rfl rfl (by kernel_rfl) (by kernel_rfl) (by kernel_rfl) (by kernel_rfl) (by kernel_rfl) (fun _ _ _ h => h) hS2 (fun L' W' hL hW => by go_simp; rfl) ?_
            have sz0 := hc2.at_ 0 rfl
            have sf0 := hc2.frozen 0
            have sk1 := hc2.set_ 0 (.int .i64 (N : Int))
            have sz1 := sk1.at_ 1 rfl
            have sf1 := sk1.frozen 1
            have sk2 := sk1.set_ 1 (.slice A' q' c')
            have sz2 := sk2.at_ 2 rfl
            have sf2 := sk2.frozen 2
            have sk3 := sk2.set_ 2 (.slice Am' N cm')
            have hS3 : Blk ((((((wd.setCell ⟨w.heap.size + 1, 0, none⟩ (.int .i64 (N : Int))).setCell ⟨w.heap.size + 1, 1, none⟩ (.slice A' q' c')).setCell ⟨w.heap.size + 1, 2, none⟩ (.slice Am' N cm')).setCell ⟨w.heap.size + 2, 0, none⟩ (.int .i64 (N : Int))).setCell ⟨w.heap.size + 2, 1, none⟩ (.slice A' q' c')).setCell ⟨w.heap.size + 2, 2, none⟩ (.slice Am' N cm')) w.heap.size 55 #[.int .i64 (n : Int), .slice A q c, .slice Am n cm] ∧ Blk ((((((wd.setCell ⟨w.heap.size + 1, 0, none⟩ (.int .i64 (N : Int))).setCell ⟨w.heap.size + 1, 1, none⟩ (.slice A' q' c')).setCell ⟨w.heap.size + 1, 2, none⟩ (.slice Am' N cm')).setCell ⟨w.heap.size + 2, 0, none⟩ (.int .i64 (N : Int))).setCell ⟨w.heap.size + 2, 1, none⟩ (.slice A' q' c')).setCell ⟨w.heap.size + 2, 2, none⟩ (.slice Am' N cm')) bx 55 #[.int .i64 (N : Int), .slice A' q' c', .slice Am' N cm'] := ⟨((hS2.1.farN (by omega) _).farN (by omega) _).farN (by omega) _, ((hS2.2.farN (by omega) _).farN (by omega) _).farN (by omega) _⟩
            have HR1 := Lib.hid (((rk3.farN (b := w.heap.size + 2) (o := 0) (by omega) (.int .i64 (N : Int))).farN (b := w.heap.size + 2) (o := 1) (by omega) (.slice A' q' c')).farN (b := w.heap.size + 2) (o := 2) (by omega) (.slice Am' N cm'))
            have HR2 := Lib.hid sk3
            clear sk1 sk2
            refine g_one (i := 7) rfl rfl (by kernel_rfl) fun K' hK => ?_
            go_simp
            refine hK _ _ hS3 ?_
            clear hK K' sz0 sz1 sz2 sf0 sf1 sf2
            refine g_take (i := 8) rfl rfl (by kernel_rfl) (by kernel_rfl) (by kernel_rfl) (by kernel_rfl) (by kernel_rfl) (fun _ _ _ h => h) hS3 (fun L' W' hL hW => by go_simp; rfl) ?_
            refine g_take (i := 9) rfl rfl (by kernel_rfl) (by kernel_rfl) (by kernel_rfl) (by kernel_rfl) (by kernel_rfl) (fun _ _ _ h => h) hS3 (fun L' W' hL hW => by go_simp; rfl) ?_
            refine wpAnyG_done (by kernel_rfl) ?_ _
            have HFIN := Lib.hid (HL.out.fin HLA.out HLM.out (.int .i64 (N : Int)) (.slice A' q' c') (.slice Am' N cm') (.int .i64 (N : Int)) (.slice A' q' c') (.slice Am' N cm'))
            clear hS hS2 hS3 rk3 sk3 hb1 hb2 hbl hc2
            go_simp
            go_wp2_with fail
            refine bodyPost_ret (results_cell5 rfl _ _ (w.heap.size + 1) (w.heap.size + 2) 55 55 #[.int .i64 (N : Int), .slice A' q' c', .slice Am' N cm'] #[.int .i64 (N : Int), .slice A' q' c', .slice Am' N cm'] (0, 0) (0, 0) _ rfl HR1.out.out rfl HR2.out.out Try.underlying55 rfl (by kernel_rfl) (by kernel_rfl)) rfl ?_
            rw [hjn] at HJ
            refine ⟨HFIN.out.1, .inr ⟨HK.out, N, es.length, 0, L', P', V', A', q', c', Am', cm', HN.out, ?_, HFIN.out.2.1, by have := HQ.out; omega, HFIN.out.2.2.1, HFIN.out.2.2.2, .inr ⟨rfl, ?_⟩⟩⟩
            · have h := HRN.out
              rw [List.take_of_length_le (by have := HQ.out; omega)] at h
              rw [HLG.out.1, HLG.out.2.1, HLG.out.2.2]
              exact .inl ⟨rfl, rfl, h⟩
            · rw [← HJ.out.1, ← HQ.out]
              rfl
  · have hkf := Bool.eq_false_iff.2 hk
    have HGR := Lib.hid (growR_no (by omega) HST.out (HR0.out.below HB0.out.1) hkf)
    unfold ov at HGR
    refine Calls.mono HGR.out ?_
    clear HGR
    rintro e w4 ⟨rfl, B4⟩
    have HK := Lib.hid hkf
    have HX0 : Hid (PX w (w4.alloc (.cells #[.int .i64 (n : Int), .slice A q c, .slice Am n cm] 55)) n A q c Am cm w4.heap.size n A q c Am cm L V) := Lib.hid (by
      obtain ⟨g1, g2, g3, g4, g5⟩ := HB0.out
      have hb : Below w3.heap.size w3 (w4.alloc (.cells #[.int .i64 (n : Int), .slice A q c, .slice Am n cm] 55)) := B4.alloc B4.size _
      have hs4 := B4.size
      exact ⟨g1.trans (hb.mono g1.size), g2.below hb g2.lt, g3.below hb g3.lt, g4.below hb g4.lt, Blk.new_ w4 _ _ rfl, by omega, HR0.out.below (g1.trans (hb.mono g1.size)), .inl rfl, .inl rfl⟩)
    generalize hw5 : w4.alloc (.cells #[.int .i64 (n : Int), .slice A q c, .slice Am n cm] 55) = wr at *
    generalize hbx : w4.heap.size = bx at *
    have HX := HX0
    clear hk hkf B4 HB0 HX0
    go_upto_region 3 with fail
    clear hw5 hbx
    have HL := Lib.hid (HX.out.below ((Below.refl _ wr).drew))
    have hS : Blk wr.drew w.heap.size 55 #[.int .i64 (n : Int), .slice A q c, .slice Am n cm] ∧ Blk wr.drew bx 55 #[.int .i64 (n : Int), .slice A q c, .slice Am n cm] := ⟨HL.out.b0, HL.out.box⟩
    refine wp_region_heldG [] (fun _ W => Blk W w.heap.size 55 #[.int .i64 (n : Int), .slice A q c, .slice Am n cm] ∧ Blk W bx 55 #[.int .i64 (n : Int), .slice A q c, .slice Am n cm]) (by kernel_rfl) ?_
    change wpAnyG _ _ _ _ _ _ 8 _ _ wr.drew
    generalize wr.drew = wd at *
    refine g_take (i := 0) rfl rfl (by kernel_rfl) (by kernel_rfl) (by kernel_rfl) (by kernel_rfl) (by kernel_rfl) (fun _ _ _ h => h) hS (fun L' W' hL hW => by have k0 := hW.1.at_ 0 rfl; have k1 := hW.1.at_ 1 rfl; have k2 := hW.1.at_ 2 rfl; go_simp; rfl) ?_
    refine g_take (i := 1) rfl rfl (by kernel_rfl) (by kernel_rfl) (by kernel_rfl) (by kernel_rfl) (by kernel_rfl) (fun _ _ _ h => h) hS (fun L' W' hL hW => by have k0 := hW.1.at_ 0 rfl; have k1 := hW.1.at_ 1 rfl; have k2 := hW.1.at_ 2 rfl; go_simp; rfl) ?_
    refine g_take (i := 2) rfl rfl (by kernel_rfl) (by kernel_rfl) (by kernel_rfl) (by kernel_rfl) (by kernel_rfl) (fun _ _ _ h => h) hS (fun L' W' hL hW => by go_simp; rfl) ?_
    have hb1 := HL.out.b1
    have hb2 := HL.out.b2
    have hbl := HL.out.bl
    have rz0 := hb1.at_ 0 rfl
    have rf0 := hb1.frozen 0
    have rk1 := hb1.set_ 0 (.int .i64 (n : Int))
    have rz1 := rk1.at_ 1 rfl
    have rf1 := rk1.frozen 1
    have rk2 := rk1.set_ 1 (.slice A q c)
    have rz2 := rk2.at_ 2 rfl
    have rf2 := rk2.frozen 2
    have rk3 := rk2.set_ 2 (.slice Am n cm)
    have hS2 : Blk (((wd.setCell ⟨w.heap.size + 1, 0, none⟩ (.int .i64 (n : Int))).setCell ⟨w.heap.size + 1, 1, none⟩ (.slice A q c)).setCell ⟨w.heap.size + 1, 2, none⟩ (.slice Am n cm)) w.heap.size 55 #[.int .i64 (n : Int), .slice A q c, .slice Am n cm] ∧ Blk (((wd.setCell ⟨w.heap.size + 1, 0, none⟩ (.int .i64 (n : Int))).setCell ⟨w.heap.size + 1, 1, none⟩ (.slice A q c)).setCell ⟨w.heap.size + 1, 2, none⟩ (.slice Am n cm)) bx 55 #[.int .i64 (n : Int), .slice A q c, .slice Am n cm] := ⟨((hS.1.farN (by omega) _).farN (by omega) _).farN (by omega) _, ((hS.2.farN (by omega) _).farN (by omega) _).farN (by omega) _⟩
    have hc2 : Blk (((wd.setCell ⟨w.heap.size + 1, 0, none⟩ (.int .i64 (n : Int))).setCell ⟨w.heap.size + 1, 1, none⟩ (.slice A q c)).setCell ⟨w.heap.size + 1, 2, none⟩ (.slice Am n cm)) (w.heap.size + 2) 55 #[.int .i64 0, .slice none 0 0, .slice none 0 0] := ((hb2.farN (by omega) _).farN (by omega) _).farN (by omega) _
    clear rk1 rk2
    refine g_one (i := 3) rfl rfl (by kernel_rfl) fun K' hK => ?_
    go_simp
    refine hK _ _ hS2 ?_
    clear hK K' rz0 rz1 rz2 rf0 rf1 rf2
    refine g_take (i := 4) rfl rfl (by kernel_rfl) (by kernel_rfl) (by kernel_rfl) (by kernel_rfl) (by kernel_rfl) (fun _ _ _ h => h) hS2 (fun L' W' hL hW => by go_simp; rfl) ?_
    have sz0 := hc2.at_ 0 rfl
    have sf0 := hc2.frozen 0
    have sk1 := hc2.set_ 0 (.int .i64 (n : Int))
    have sz1 := sk1.at_ 1 rfl
    have sf1 := sk1.frozen 1
    have sk2 := sk1.set_ 1 (.slice A q c)
    have sz2 := sk2.at_ 2 rfl
    have sf2 := sk2.frozen 2
    have sk3 := sk2.set_ 2 (.slice Am n cm)
    have hS3 : Blk ((((((wd.setCell ⟨w.heap.size + 1, 0, none⟩ (.int .i64 (n : Int))).setCell ⟨w.heap.size + 1, 1, none⟩ (.slice A q c)).setCell ⟨w.heap.size + 1, 2, none⟩ (.slice Am n cm)).setCell ⟨w.heap.size + 2, 0, none⟩ (.int .i64 (n : Int))).setCell ⟨w.heap.size + 2, 1, none⟩ (.slice A q c)).setCell ⟨w.heap.size + 2, 2, none⟩ (.slice Am n cm)) w.heap.size 55 #[.int .i64 (n : Int), .slice A q c, .slice Am n cm] ∧ Blk ((((((wd.setCell ⟨w.heap.size + 1, 0, none⟩ (.int .i64 (n : Int))).setCell ⟨w.heap.size + 1, 1, none⟩ (.slice A q c)).setCell ⟨w.heap.size + 1, 2, none⟩ (.slice Am n cm)).setCell ⟨w.heap.size + 2, 0, none⟩ (.int .i64 (n : Int))).setCell ⟨w.heap.size + 2, 1, none⟩ (.slice A q c)).setCell ⟨w.heap.size + 2, 2, none⟩ (.slice Am n cm)) bx 55 #[.int .i64 (n : Int), .slice A q c, .slice Am n cm] := ⟨((hS2.1.farN (by omega) _).farN (by omega) _).farN (by omega) _, ((hS2.2.farN (by omega) _).farN (by omega) _).farN (by omega) _⟩
    have HR1 := Lib.hid (((rk3.farN (b := w.heap.size + 2) (o := 0) (by omega) (.int .i64 (n : Int))).farN (b := w.heap.size + 2) (o := 1) (by omega) (.slice A q c)).farN (b := w.heap.size + 2) (o := 2) (by omega) (.slice Am n cm))
    have HR2 := Lib.hid sk3
    clear sk1 sk2
    refine g_one (i := 5) rfl rfl (by kernel_rfl) fun K' hK => ?_
    go_simp
    refine hK _ _ hS3 ?_
    clear hK K' sz0 sz1 sz2 sf0 sf1 sf2
    refine g_take (i := 6) rfl rfl (by kernel_rfl) (by kernel_rfl) (by kernel_rfl) (by kernel_rfl) (by kernel_rfl) (fun _ _ _ h => h) hS3 (fun L' W' hL hW => by go_simp; rfl) ?_
    refine g_take (i := 7) rfl rfl (by kernel_rfl) (by kernel_rfl) (by kernel_rfl) (by kernel_rfl) (by kernel_rfl) (fun _ _ _ h => h) hS3 (fun L' W' hL hW => by go_simp; rfl) ?_
    refine wpAnyG_done (by kernel_rfl) ?_ _
    have HFIN := Lib.hid (HL.out.fin HLA.out HLM.out (.int .i64 (n : Int)) (.slice A q c) (.slice Am n cm) (.int .i64 (n : Int)) (.slice A q c) (.slice Am n cm))
    clear hS hS2 hS3 rk3 sk3 hb1 hb2 hbl hc2
    go_simp
    go_wp2_with fail
    refine bodyPost_ret (results_cell5 rfl _ _ (w.heap.size + 1) (w.heap.size + 2) 55 55 #[.int .i64 (n : Int), .slice A q c, .slice Am n cm] #[.int .i64 (n : Int), .slice A q c, .slice Am n cm] (0, 0) (0, 0) _ rfl HR1.out.out rfl HR2.out.out Try.underlying55 rfl (by kernel_rfl) (by kernel_rfl)) rfl ?_
    exact ⟨HFIN.out.1, .inl ⟨HK.out, rfl⟩⟩
end Go.Proofs.Ytelplccbcbegkaa.OrW
