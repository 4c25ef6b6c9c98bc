/-
  The walks of the document's own From and Reach.
-/
import Derived.Test.YtclbpohhmaojcaaGraphRef4
namespace Go.Proofs.Ytclbpohhmaojcaa.Gr
set_option linter.unusedVariables false
/-- What is met from a vertex, so far. -/
structure RMet (n : Nat) (L : List (List Int)) (u : Nat) (met : List Bool) : Prop where
  len : met.length = n
  has : is met u = true
  sound : ∀ v, is met v = true → Path L u v
theorem RMet.step {n : Nat} {L : List (List Int)} {u : Nat} {met : List Bool} (h : RMet n L u met) {x y : Nat} (hx : is met x = true) (he : E L x y) (hy : y < n) : RMet n L u (met.set y true) := by
  have hlen := h.len
  refine ⟨by rw [List.length_set]; exact hlen, (mono_set (by omega)).2 u h.has, fun v hv => ?_⟩
  rw [is_set (by omega)] at hv
  by_cases e : v = y
  · subst e
    exact (h.sound x hx).trans (.step he (.refl _))
  · exact h.sound v (by simpa [e] using hv)
theorem RMet.closed {n : Nat} {L : List (List Int)} {u : Nat} {met : List Bool} (h : RMet n L u met) (hc : ∀ x y, E L x y → is met x = true → is met y = true) (v : Nat) : is met v = true ↔ Path L u v := by
  refine ⟨h.sound v, fun hp => ?_⟩
  have all : ∀ {a c : Nat}, Path L a c → is met a = true → is met c = true := by
    intro a c hp
    induction hp with
    | refl a => exact id
    | step he _ ih => exact fun ha => ih (hc _ _ he ha)
  exact all hp h.has
theorem RMet.start {n : Nat} {L : List (List Int)} {u : Nat} (hu : u < n) : RMet n L u ((List.replicate n false).set u true) := by
  refine ⟨by simp, by rw [is_set (by simpa using hu)]; simp, fun v hv => ?_⟩
  rw [is_set (by simpa using hu), is_none] at hv
  have : v = u := by simpa using hv
  subst this
  exact .refl _
theorem edge_of {n : Nat} {L : List (List Int)} (ok : OK n L) {i : Nat} (h : i < (edgesTo L n).length) : ∃ x y : Nat, (edgesTo L n)[i] = ((x : Int), (y : Int)) ∧ x < n ∧ y < n ∧ E L x y := by
  obtain ⟨u, hu, e1, h2⟩ := mem_edgesTo.1 (List.getElem_mem h)
  obtain ⟨h3, h4⟩ := ok.ins _ _ h2
  obtain ⟨v, hv⟩ : ∃ v : Nat, ((edgesTo L n)[i]).2 = v := ⟨((edgesTo L n)[i]).2.toNat, by omega⟩
  rw [hv] at h2 h4
  exact ⟨u, v, Prod.ext e1 hv, hu, by omega, h2⟩
end Go.Proofs.Ytclbpohhmaojcaa.Gr
namespace Go.Proofs.Ytclbpohhmaojcaa.GrW
set_option linter.unusedVariables false
open Go Go.RowKit Go.Proofs Go.Proofs.Ytclbpohhmaojcaa Go.Proofs.Ytclbpohhmaojcaa.Wd
open Go.Proofs.Ytclbpohhmaojcaa.Gr (ev edgesTo OK RMet is un Path)
def notB : Value → Bool
  | .bool false => true
  | _ => false
def oneB : Value → Nat
  | .bool true => 1
  | _ => 0
/-- How many truth values of a block are false. -/
def unW (w : World) (g : Nat) : Nat := match w.heap[g]? with
  | some (.cells cs _ _) => cs.toList.countP notB
  | _ => 0
theorem unW_of {w : World} {g : Nat} {met : List Bool} (h : Blk w g 4 (bl met).toArray) : unW w g = un met := by
  unfold unW
  rw [h.out]
  show List.countP notB (bl met) = un met
  unfold un bl
  rw [List.countP_map]
  apply List.countP_congr
  intro b _
  cases b <;> simp [notB]
/-- While the document's search goes on. -/
structure FS (w wr : World) (n : Nat) (A : Option Addr) (q c : Nat) (L : List (List Int)) (u : Nat) (met : List Bool) : Prop where
  pa : PA w wr n A q c
  row : Blk wr (w.heap.size + 1) 4 (bl met).toArray
  met : RMet n L u met
theorem FS.store {w wr : World} {n : Nat} {A : Option Addr} {q c : Nat} {L : List (List Int)} {u : Nat} {met : List Bool} (h : FS w wr n A q c L u met) {x y : Nat} (hx : is met x = true) (he : Gr.E L x y) (hy : y < n) : FS w (wr.setCell ⟨w.heap.size + 1, y, none⟩ (.bool true)) n A q c L u (met.set y true) :=
  ⟨⟨h.pa.low.setCell (p := ⟨w.heap.size + 1, y, none⟩) (Nat.le_succ _) _, h.pa.b0.farN (by omega) _⟩, by rw [← bl_set]; exact h.row.set_ y _, h.met.step hx he hy⟩
def RefFromOut (w : World) (n : Nat) (L : List (List Int)) (u : Nat) (e : Ending) (w' : World) : Prop :=
  ∃ g met, e = .returned (.slice (some ⟨g, 0, none⟩) n n) ∧ Below w.heap.size w w' ∧ Blk w' g 4 (bl met).toArray ∧ met.length = n ∧ ∀ v, is met v = true ↔ Path L u v
set_option maxRecDepth 100000 in
set_option maxHeartbeats 4000000 in
theorem reffrom_any (w : World) (n : Nat) (hn : n ≤ 30000) (L : List (List Int)) (ok : OK n L) (A : Option Addr) (q c : Nat) (hq : q = (edgesTo L n).length) (hqc : q ≤ c) (hcm : c ≤ maxLen) (hbig : q ≤ 1000000) (hE : EdgesAt w w.heap.size A (edgesTo L n)) (u : Nat) (hu : u < n) : Calls Try.prog 46 #[rv n A q c, .int .i64 u] w (RefFromOut w n L u) := by
  have HP := Lib.hid (PA.start w n A q c)
  have HE := Lib.hid hE
  have HQ := Lib.hid hq
  have HOK := Lib.hid ok
  have HU := Lib.hid (Gr.isV_of hu)
  have hmk := make_bools n hn
  have c0 := (PA.start w n A q c).b0.at_ 0 rfl
  have c0' := ((PA.start w n A q c).b0.alloc (.cells (bl (List.replicate n false)).toArray 4)).at_ 0 rfl
  have c1' := ((PA.start w n A q c).b0.alloc (.cells (bl (List.replicate n false)).toArray 4)).at_ 1 rfl
  have i1 : (0 : Int) ≤ (u : Int) := by omega
  have i2 : (u : Int) < (n : Int) := by omega
  clear hE hq hcm ok
  unfold rv
  go_enter Try.func46, Try.ntmps46
  go_wp2_with fail
  refine Calls.mono (refis_any _ n A q c u) ?_
  rintro e w1 ⟨rfl, B1⟩
  rw [HU.out]
  have hb1 : Blk w1 (w.heap.size + 1) 4 (bl (List.replicate n false)).toArray := Blk.below (Blk.new_ (w.alloc (.cells #[.int .i64 (n : Int), .slice A q c] 52)) 4 (bl (List.replicate n false)).toArray (n := w.heap.size + 1) (by simp)) B1 (by simp)
  have hp1 := (HP.out.below ((Below.refl _ _).alloc (Nat.le_refl _) (.cells (bl (List.replicate n false)).toArray 4))).below B1
  have HF0 : Hid (FS w (w1.setCell ⟨w.heap.size + 1, u, none⟩ (.bool true)) n A q c L u ((List.replicate n false).set u true)) := Lib.hid ⟨⟨hp1.low.setCell (p := ⟨w.heap.size + 1, u, none⟩) (Nat.le_succ _) _, hp1.b0.farN (by omega) _⟩, by rw [← bl_set]; exact hb1.set_ u _, RMet.start hu⟩
  have a1 : w1.cell? ⟨w.heap.size + 1, u, none⟩ = some (.bool (is (List.replicate n false) u)) := hb1.at_ u (bl_at (by simpa using hu))
  have a2 : w1.frozen? ⟨w.heap.size + 1, u, none⟩ = false := hb1.frozen u
  clear HP B1 hb1 hp1 c0 c0' c1' hmk
  go_wp2_with fail
  clear a1 a2
  go_loopw [6] (fun v6 wr => ∃ (more : Bool) (met : List Bool), v6 = .bool more ∧ Hid (FS w wr n A q c L u met ∧ (more = false → ∀ x y, Gr.E L x y → is met x = true → is met y = true))) (fun v6 wr => 2 * unW wr (w.heap.size + 1) + oneB v6)
  case atStart => exact ⟨true, _, rfl, Lib.hid ⟨HF0.out, fun e => by cases e⟩⟩
  case round =>
    obtain ⟨more, met, rfl, HS⟩ := hrel
    clear HF0
    have HM0 := Lib.hid (unW_of HS.out.1.row)
    cases more
    · have HF : Hid (RefFromOut w n L u (.returned (.slice (some ⟨w.heap.size + 1, 0, none⟩) n n)) wr) := Lib.hid ⟨_, met, rfl, HS.out.1.pa.low, HS.out.1.row, HS.out.1.met.len, HS.out.1.met.closed (HS.out.2 rfl)⟩
      clear HS HM0
      go_wp2_with fail
      go_ret
      exact HF.out
    · generalize hW0 : wr = w0 at *
      clear hW0
      go_wp2_with fail
      go_loopw [6, 7] (fun v6 v7 wr => ∃ (j : Nat) (more : Bool) (met1 : List Bool), j ≤ q ∧ v7 = .int .i64 j ∧ v6 = .bool more ∧ Hid (FS w wr n A q c L u met1 ∧ (more = true → un met1 < un met) ∧ (more = false → un met1 ≤ un met ∧ ∀ (i : Nat) (x y : Nat) (h : i < (edgesTo L n).length), i < j → (edgesTo L n)[i] = ((x : Int), (y : Int)) → is met1 x = true → is met1 y = true))) (fun _ v7 _ => q - (intOf v7).toNat)
      case atStart => exact ⟨0, false, met, Nat.zero_le _, rfl, rfl, Lib.hid ⟨HS.out.1, fun e => (by cases e), fun _ => ⟨Nat.le_refl _, fun i x y h hi => (by omega)⟩⟩⟩
      case round =>
        obtain ⟨j, more, met1, hj, rfl, rfl, HT⟩ := hrel
        clear HS
        have d1 : wr.cell? ⟨w.heap.size, 1, none⟩ = some (.slice A q c) := HT.out.1.pa.b0.at_ 1 rfl
        by_cases hlt : j < q
        · have hjl : j < (edgesTo L n).length := by have := HQ.out; omega
          obtain ⟨b, off, rfl, hb, p1, p2⟩ := HE.out j hjl
          obtain ⟨x, y, hxy, hx, hy, hed⟩ := Gr.edge_of HOK.out hjl
          rw [hxy] at p1 p2
          have q1 := (HT.out.1.pa.low.cell (p := ⟨b, _, none⟩) hb).trans p1
          have q2 := (HT.out.1.pa.low.cell (p := ⟨b, _, none⟩) hb).trans p2
          have hlen := HT.out.1.met.len
          have m1 : wr.cell? ⟨w.heap.size + 1, x, none⟩ = some (.bool (is met1 x)) := HT.out.1.row.at_ x (bl_at (by omega))
          have m2 : wr.cell? ⟨w.heap.size + 1, y, none⟩ = some (.bool (is met1 y)) := HT.out.1.row.at_ y (bl_at (by omega))
          have j1 : (0 : Int) ≤ (j : Int) := by omega
          have j2 : (j : Int) < (q : Int) := by omega
          have j3 : (0 : Int) ≤ (x : Int) := by omega
          have j4 : (x : Int) < (n : Int) := by omega
          have j5 : (0 : Int) ≤ (y : Int) := by omega
          have j6 : (y : Int) < (n : Int) := by omega
          have HXY := Lib.hid hxy
          have hold : ∀ mx : Bool, (is met1 x = true → is met1 y = true) → Hid (FS w wr n (some ⟨b, off, none⟩) q c L u met1 ∧ (more = true → un met1 < un met) ∧ (more = false → un met1 ≤ un met ∧ ∀ (i : Nat) (x y : Nat) (h : i < (edgesTo L n).length), i < j + 1 → (edgesTo L n)[i] = ((x : Int), (y : Int)) → is met1 x = true → is met1 y = true)) := fun _ hk => Lib.hid ⟨HT.out.1, HT.out.2.1, fun e => ⟨(HT.out.2.2 e).1, fun i x' y' h hi he hm => by
            by_cases hij : i = j
            · subst hij
              rw [HXY.out] at he
              simp only [Prod.mk.injEq] at he
              have e1 : x = x' := by omega
              have e2 : y = y' := by omega
              subst e1; subst e2
              exact hk hm
            · exact (HT.out.2.2 e).2 i x' y' h (by omega) he hm⟩⟩
          have HOLD := Lib.hid hold
          clear p1 p2 hb hxy hold
          cases hmx : is met1 x
          · have HN := HOLD.out true (fun h => by rw [hmx] at h; cases h)
            rw [hmx] at m1
            clear HT HOLD hmx hed hlen
            go_wp2_with fail
            go_roundw
            case rel => exact ⟨j + 1, more, met1, by omega, by go_num, rfl, HN⟩
            case measure => simp [intOf]; omega
          · cases hmy : is met1 y
            · have hs := HT.out.1.store hmx hed hy
              have hun : un (met1.set y true) < un met1 := Gr.un_set (by omega) hmy
              have HN : Hid (FS w (wr.setCell ⟨w.heap.size + 1, y, none⟩ (.bool true)) n (some ⟨b, off, none⟩) q c L u (met1.set y true) ∧ (true = true → un (met1.set y true) < un met) ∧ (true = false → un (met1.set y true) ≤ un met ∧ ∀ (i : Nat) (x y_1 : Nat) (h : i < (edgesTo L n).length), i < j + 1 → (edgesTo L n)[i] = ((x : Int), (y_1 : Int)) → is (met1.set y true) x = true → is (met1.set y true) y_1 = true)) := Lib.hid ⟨hs, fun _ => (by
                cases more
                · have := (HT.out.2.2 rfl).1; omega
                · have := HT.out.2.1 rfl; omega), fun e => (by cases e)⟩
              have hz : wr.frozen? ⟨w.heap.size + 1, y, none⟩ = false := HT.out.1.row.frozen y
              rw [hmx] at m1
              rw [hmy] at m2
              clear HT HOLD hmx hmy hed hlen hs hun
              go_wp2_with fail
              go_roundw
              case rel => exact ⟨j + 1, true, _, by omega, by go_num, rfl, HN⟩
              case measure => simp [intOf]; omega
            · have HN := HOLD.out true (fun _ => hmy)
              rw [hmx] at m1
              rw [hmy] at m2
              clear HT HOLD hmx hmy hed hlen
              go_wp2_with fail
              go_roundw
              case rel => exact ⟨j + 1, more, met1, by omega, by go_num, rfl, HN⟩
              case measure => simp [intOf]; omega
        · have HN : Hid (FS w wr n A q c L u met1 ∧ (more = false → ∀ x y, Gr.E L x y → is met1 x = true → is met1 y = true)) := Lib.hid ⟨HT.out.1, fun e x y he hm => by
            obtain ⟨hx, hy⟩ := HOK.out.edge_lt he
            have hmem : ((x : Int), (y : Int)) ∈ edgesTo L n := Gr.mem_edgesTo.2 ⟨x, hx, rfl, he⟩
            obtain ⟨i, hi, hi2⟩ := List.getElem_of_mem hmem
            exact (HT.out.2.2 e).2 i x y hi (by have := HQ.out; omega) hi2 hm⟩
          have HMS : Hid (2 * unW wr (w.heap.size + 1) + oneB (.bool more) < 2 * unW w0 (w.heap.size + 1) + 1) := Lib.hid (by
            rw [HM0.out, unW_of HT.out.1.row]
            cases more
            · have := (HT.out.2.2 rfl).1; simp [oneB]; omega
            · have := HT.out.2.1 rfl; simp [oneB]; omega)
          clear HT HM0
          go_wp2_with fail
          go_roundw
          case rel => exact ⟨more, met1, rfl, HN⟩
          case measure =>
            have := HMS.out
            simpa [oneB] using this
theorem edges_more {w w' : World} {A : Option Addr} {E : List (Int × Int)} (h : EdgesAt w w.heap.size A E) (hb : Below w.heap.size w w') : EdgesAt w' w'.heap.size A E := fun j hj => by
  obtain ⟨b, off, e1, e2, e3, e4⟩ := (h.below hb) j hj
  exact ⟨b, off, e1, Nat.lt_of_lt_of_le e2 hb.size, e3, e4⟩
set_option maxRecDepth 100000 in
theorem refreach_any (w : World) (n : Nat) (hn : n ≤ 30000) (L : List (List Int)) (ok : OK n L) (A : Option Addr) (q c : Nat) (hq : q = (edgesTo L n).length) (hqc : q ≤ c) (hcm : c ≤ maxLen) (hbig : q ≤ 1000000) (hE : EdgesAt w w.heap.size A (edgesTo L n)) (x y : Int) : Calls Try.prog 34 #[rv n A q c, .int .i64 x, .int .i64 y] w (ReachOut w n L x y) := by
  have HP := Lib.hid (PA.start w n A q c)
  have HE := Lib.hid hE
  have HQ := Lib.hid hq
  have HOK := Lib.hid ok
  have HCM := Lib.hid hcm
  have c0 := (PA.start w n A q c).b0.at_ 0 rfl
  have c1 := (PA.start w n A q c).b0.at_ 1 rfl
  clear hE hq hcm ok
  unfold rv
  by_cases hx : isV n x = true
  · by_cases hy : isV n y = true
    · obtain ⟨u, rfl, hu⟩ := isV_nat hx
      obtain ⟨v, rfl, hv⟩ := isV_nat hy
      have HX := Lib.hid hx
      have HY := Lib.hid hy
      clear hx hy
      go_enter Try.func34, Try.ntmps34
      go_wp2_with fail
      refine Calls.mono (refis_any _ n A q c (u : Int)) ?_
      rintro e w1 ⟨rfl, B1⟩
      rw [HX.out]
      have HP1 := Lib.hid (HP.out.below B1)
      have d0 := HP1.out.b0.at_ 0 rfl
      have d1 := HP1.out.b0.at_ 1 rfl
      clear HP B1 c0 c1
      go_wp2_with fail
      refine Calls.mono (refis_any _ n A q c (v : Int)) ?_
      rintro e w2 ⟨rfl, B2⟩
      rw [HY.out]
      have HP2 := Lib.hid (HP1.out.below B2)
      have d2 := HP2.out.b0.at_ 0 rfl
      have d3 := HP2.out.b0.at_ 1 rfl
      clear HP1 B2 d0 d1
      go_wp2_with fail
      refine Calls.mono (reffrom_any w2 n hn L HOK.out A q c HQ.out hqc HCM.out hbig (edges_more HE.out HP2.out.low) u hu) ?_
      rintro e w3 ⟨g, met, rfl, B3, hb3, hl3, hm3⟩
      have c3 : w3.cell? ⟨g, v, none⟩ = some (.bool (Gr.is met v)) := hb3.at_ v (bl_at (by omega))
      have HF : Hid (ReachOut w n L u v (.returned (.bool (Gr.is met v))) w3) := Lib.hid ⟨_, rfl, (by
        rw [hm3]
        unfold reached
        rw [HX.out, HY.out]
        simp), HP2.out.low.trans (B3.mono HP2.out.low.size)⟩
      generalize Gr.is met v = b at *
      have i1 : (0 : Int) ≤ (v : Int) := by omega
      have i2 : (v : Int) < (n : Int) := by omega
      clear HP2 B3 hb3 hl3 hm3 d2 d3
      go_wp2_with fail
      go_ret
      exact HF.out
    · have HY := Lib.hid (Bool.eq_false_iff.2 hy)
      have HX := Lib.hid hx
      clear hx hy
      go_enter Try.func34, Try.ntmps34
      go_wp2_with fail
      refine Calls.mono (refis_any _ n A q c x) ?_
      rintro e w1 ⟨rfl, B1⟩
      rw [HX.out]
      have HP1 := Lib.hid (HP.out.below B1)
      have d0 := HP1.out.b0.at_ 0 rfl
      have d1 := HP1.out.b0.at_ 1 rfl
      clear HP B1 c0 c1
      go_wp2_with fail
      refine Calls.mono (refis_any _ n A q c y) ?_
      rintro e w2 ⟨rfl, B2⟩
      rw [HY.out]
      have HF : Hid (ReachOut w n L x y (.returned (.bool false)) w2) := Lib.hid ⟨_, rfl, (by
        unfold reached
        rw [HY.out]
        simp), (HP1.out.below B2).low⟩
      clear HP1 B2 d0 d1
      go_wp2_with fail
      go_ret
      exact HF.out
  · have HX := Lib.hid (Bool.eq_false_iff.2 hx)
    clear hx
    go_enter Try.func34, Try.ntmps34
    go_wp2_with fail
    refine Calls.mono (refis_any _ n A q c x) ?_
    rintro e w1 ⟨rfl, B1⟩
    rw [HX.out]
    have HF : Hid (ReachOut w n L x y (.returned (.bool false)) w1) := Lib.hid ⟨_, rfl, (by
      unfold reached
      rw [HX.out]
      simp), (HP.out.below B1).low⟩
    clear HP B1 c0 c1
    go_wp2_with fail
    go_ret
    exact HF.out
end Go.Proofs.Ytclbpohhmaojcaa.GrW
