/-
  The walk of the document's own Sort.
-/
import Derived.Test.YtclbpohhmaojcaaGraphRef5
namespace Go.Proofs.Ytclbpohhmaojcaa.Gr
set_option linter.unusedVariables false
/-- The least free vertex above a place, or a number below 0. -/
def BestZ (n : Nat) (L : List (List Int)) (out : List Int) (z best : Int) : Prop :=
  (best = -1 ∧ ∀ x : Nat, z < (x : Int) → ¬ Free n L out x) ∨ ∃ b : Nat, best = (b : Int) ∧ Free n L out b ∧ z < (b : Int) ∧ ∀ x : Nat, z < (x : Int) → Free n L out x → b ≤ x
theorem BestZ.top {n : Nat} {L : List (List Int)} {out : List Int} : BestZ n L out ((n : Int) - 1) (-1) := .inl ⟨rfl, fun x hx hf => by have := hf.1; omega⟩
theorem BestZ.no {n : Nat} {L : List (List Int)} {out : List Int} {v : Nat} {best : Int} (h : BestZ n L out (v : Int) best) (hv : ¬ Free n L out v) : BestZ n L out ((v : Int) - 1) best := by
  rcases h with ⟨h1, h2⟩ | ⟨b, h1, h2, h3, h4⟩
  · refine .inl ⟨h1, fun x hx hf => ?_⟩
    by_cases e : x = v
    · subst e; exact hv hf
    · exact h2 x (by omega) hf
  · refine .inr ⟨b, h1, h2, by omega, fun x hx hf => ?_⟩
    by_cases e : x = v
    · subst e; exact absurd hf hv
    · exact h4 x (by omega) hf
theorem BestZ.yes {n : Nat} {L : List (List Int)} {out : List Int} {v : Nat} {best : Int} (h : BestZ n L out (v : Int) best) (hv : Free n L out v) : BestZ n L out ((v : Int) - 1) (v : Int) := by
  refine .inr ⟨v, rfl, hv, by omega, fun x hx hf => by omega⟩
/-- May v still be free, as far as the first j edges tell? -/
def OkAt (n : Nat) (L : List (List Int)) (out : List Int) (v j : Nat) (okb : Bool) : Prop :=
  (okb = true → (v : Int) ∉ out ∧ ∀ (i x y : Nat) (h : i < (edgesTo L n).length), i < j → (edgesTo L n)[i] = ((x : Int), (y : Int)) → y = v → (x : Int) ∈ out) ∧ (okb = false → ¬ Free n L out v)
theorem OkAt.free {n : Nat} {L : List (List Int)} {out : List Int} {v : Nat} (ok : OK n L) (hv : v < n) (h : OkAt n L out v (edgesTo L n).length true) : Free n L out v := by
  obtain ⟨h1, h2⟩ := h.1 rfl
  refine ⟨hv, h1, fun u hu => ?_⟩
  obtain ⟨h3, h4⟩ := ok.ins _ u hu
  obtain ⟨x, rfl⟩ : ∃ x : Nat, u = x := ⟨u.toNat, by omega⟩
  have hx : x < n := by omega
  have he := (ok.cons x v hx hv).2 hu
  obtain ⟨i, hi, hi2⟩ := List.getElem_of_mem (mem_edgesTo.2 ⟨x, hx, rfl, he⟩ : ((x : Int), (v : Int)) ∈ edgesTo L n)
  exact h2 i x v hi hi hi2 rfl
end Go.Proofs.Ytclbpohhmaojcaa.Gr
namespace Go.Proofs.Ytclbpohhmaojcaa.GrW
set_option linter.unusedVariables false
open Go Go.RowKit Go.Proofs Go.Proofs.Ytclbpohhmaojcaa Go.Proofs.Ytclbpohhmaojcaa.Wd
open Go.Proofs.Ytclbpohhmaojcaa.Gr (ev edgesTo OK is Free Topo BestZ OkAt)
/-- While the document sorts. -/
structure ST (w wr : World) (n : Nat) (A : Option Addr) (q c : Nat) (L : List (List Int)) (out : List Int) (told : List Bool) (v : Value) (m : Nat) : Prop where
  pa : PA w wr n A q c
  row : Blk wr (w.heap.size + 1) 4 (bl told).toArray
  len : told.length = n
  mem : ∀ x : Nat, x < n → (is told x = true ↔ (x : Int) ∈ out)
  topo : Topo n L out
  own : wr.ownsRow (w.heap.size + 2) 3 1 v m (iv out)
set_option maxRecDepth 100000 in
set_option maxHeartbeats 8000000 in
theorem refsort_any (w : World) (n : Nat) (hn : n ≤ 30000) (L : List (List Int)) (ok : OK n L) (A : Option Addr) (q c : Nat) (hq : q = (edgesTo L n).length) (hqc : q ≤ c) (hbig : q ≤ 1000000) (hE : EdgesAt w w.heap.size A (edgesTo L n)) : Calls Try.prog 31 #[rv n A q c] w (SortOut w n L) := by
  have HP := Lib.hid (PA.start w n A q c)
  have HE := Lib.hid hE
  have HQ := Lib.hid hq
  have HOK := Lib.hid ok
  have hmk := make_bools n hn
  have c0 := (PA.start w n A q c).b0.at_ 0 rfl
  have HS0 : Hid (ST w ((w.alloc (.cells #[.int .i64 (n : Int), .slice A q c] 52)).alloc (.cells (bl (List.replicate n false)).toArray 4)) n A q c L [] (List.replicate n false) (.slice none 0 0) 0) := Lib.hid ⟨(PA.start w n A q c).below ((Below.refl _ _).alloc (Nat.le_refl _) _), Blk.new_ _ _ _ (by simp), by simp, fun x hx => by rw [Gr.is_none]; simp, .nil, own_nil _ _ _⟩
  clear hE hq ok
  unfold rv
  go_enter Try.func31, Try.ntmps31
  go_wp2_with fail
  clear c0 hmk
  go_loopw [5] (fun v5 wr => ∃ (A9 : Option Addr) (m c9 : Nat) (out : List Int) (told : List Bool), v5 = .slice A9 m c9 ∧ m ≤ n ∧ Hid (m = out.length ∧ ST w wr n A q c L out told v5 m)) (fun v5 _ => n - lenV v5)
  case atStart => exact ⟨_, _, _, _, _, rfl, Nat.zero_le _, Lib.hid ⟨rfl, HS0.out⟩⟩
  case round =>
    obtain ⟨A9, m, c9, out, told, rfl, hm, HT⟩ := hrel
    clear HS0
    have d0 : wr.cell? ⟨w.heap.size, 0, none⟩ = some (.int .i64 (n : Int)) := HT.out.2.pa.b0.at_ 0 rfl
    have d1 : wr.cell? ⟨w.heap.size, 1, none⟩ = some (.slice A q c) := HT.out.2.pa.b0.at_ 1 rfl
    by_cases hlt : m < n
    · have i1 : (m : Int) < (n : Int) := by omega
      go_wp2_with fail
      go_loop [6, 7] (fun v6 v7 => ∃ (z best : Int), v6 = .int .i64 best ∧ v7 = .int .i64 z ∧ -1 ≤ z ∧ z < n ∧ Hid (BestZ n L out z best)) (fun _ v7 => (intOf v7 + 1).toNat)
      case atStart => exact ⟨(n : Int) - 1, -1, rfl, rfl, by omega, by omega, Lib.hid BestZ.top⟩
      case round =>
        obtain ⟨z, best, rfl, rfl, hz1, hz2, HB⟩ := hrel
        by_cases hz : 0 ≤ z
        · obtain ⟨v, rfl⟩ : ∃ v : Nat, z = v := ⟨z.toNat, by omega⟩
          have hvn : v < n := by omega
          have m1 : wr.cell? ⟨w.heap.size + 1, v, none⟩ = some (.bool (is told v)) := HT.out.2.row.at_ v (bl_at (by rw [HT.out.2.len]; exact hvn))
          have HO0 : Hid (OkAt n L out v 0 (!is told v)) := Lib.hid ⟨fun e => ⟨fun hm => by rw [(HT.out.2.mem v hvn).2 hm] at e; simp at e, fun i x y h hi => by omega⟩, fun e hf => hf.2.1 ((HT.out.2.mem v hvn).1 (by simpa using e))⟩
          generalize is told v = tv at *
          have hv0 : (0 : Int) ≤ (v : Int) := by omega
          go_wp2_with fail
          clear m1
          go_loop [8, 9] (fun v8 v9 => ∃ (j : Nat) (okb : Bool), j ≤ q ∧ v9 = .int .i64 j ∧ v8 = .bool okb ∧ Hid (OkAt n L out v j okb)) (fun _ v9 => q - (intOf v9).toNat)
          case atStart => exact ⟨0, !tv, Nat.zero_le _, rfl, rfl, HO0⟩
          case round =>
            obtain ⟨j, okb, hj, rfl, rfl, HK⟩ := hrel
            clear HO0
            cases okb
            · have HN := Lib.hid (HB.out.no (HK.out.2 rfl))
              clear HK HB
              go_wp2_with fail
              go_round
              case rel => exact ⟨(v : Int) - 1, best, rfl, by go_num, by omega, by omega, HN⟩
              case measure => simp [intOf]
            · by_cases hjq : j < q
              · have hjl : j < (edgesTo L n).length := by have := HQ.out; omega
                obtain ⟨b, off, rfl, hb, p1, p2⟩ := HE.out j hjl
                obtain ⟨x, y, hxy, hx, hy, hed⟩ := Gr.edge_of HOK.out hjl
                rw [hxy] at p1 p2
                have q1 := (HT.out.2.pa.low.cell (p := ⟨b, _, none⟩) hb).trans p1
                have q2 := (HT.out.2.pa.low.cell (p := ⟨b, _, none⟩) hb).trans p2
                have m2 : wr.cell? ⟨w.heap.size + 1, x, none⟩ = some (.bool (is told x)) := HT.out.2.row.at_ x (bl_at (by rw [HT.out.2.len]; exact hx))
                have j1 : (0 : Int) ≤ (j : Int) := by omega
                have j2 : (j : Int) < (q : Int) := by omega
                have j3 : (0 : Int) ≤ (x : Int) := by omega
                have j4 : (x : Int) < (n : Int) := by omega
                have HXY := Lib.hid hxy
                have hnext : (y = v → is told x = true) → Hid (OkAt n L out v (j + 1) true) := fun hk => Lib.hid ⟨fun e => ⟨(HK.out.1 rfl).1, fun i x' y' h hi he hyv => by
                  by_cases hij : i = j
                  · subst hij
                    rw [HXY.out] at he
                    simp only [Prod.mk.injEq] at he
                    have e1 : x = x' := by omega
                    have e2 : y = y' := by omega
                    subst e1; subst e2
                    exact (HT.out.2.mem x hx).1 (hk hyv)
                  · exact (HK.out.1 rfl).2 i x' y' h (by omega) he hyv⟩, fun e => by cases e⟩
                have HNX := Lib.hid hnext
                clear p1 p2 hb hxy hnext
                by_cases hyv : y = v
                · have f1 : ((y : Int) != (v : Int)) = false := by rw [bne_eq_false_iff_eq]; omega
                  cases htx : is told x
                  · have hno : ¬ Free n L out v := fun hf => by
                      have hin : (x : Int) ∈ Gr.intos L v := (HOK.out.cons x v hx hvn).1 (by rw [← hyv]; exact hed)
                      have := (HT.out.2.mem x hx).2 (hf.2.2 _ hin)
                      rw [htx] at this
                      cases this
                    have HN : Hid (OkAt n L out v (j + 1) false) := Lib.hid ⟨fun e => (by cases e), fun _ => hno⟩
                    clear hno
                    rw [htx] at m2
                    clear HNX htx hed hyv HK
                    go_wp2_with fail
                    go_round
                    case rel => exact ⟨j + 1, false, by omega, by go_num, rfl, HN⟩
                    case measure => simp [intOf]; omega
                  · have HN := HNX.out (fun _ => htx)
                    rw [htx] at m2
                    clear HNX htx hed hyv HK
                    go_wp2_with fail
                    go_round
                    case rel => exact ⟨j + 1, true, by omega, by go_num, rfl, HN⟩
                    case measure => simp [intOf]; omega
                · have f1 : ((y : Int) != (v : Int)) = true := by rw [bne_iff_ne]; omega
                  have HN := HNX.out (fun e => absurd e hyv)
                  clear HNX hed hyv HK m2
                  go_wp2_with fail
                  go_round
                  case rel => exact ⟨j + 1, true, by omega, by go_num, rfl, HN⟩
                  case measure => simp [intOf]; omega
              · have HN := Lib.hid (HB.out.yes (OkAt.free HOK.out hvn (by
                  have h := HK.out
                  rw [show j = (edgesTo L n).length by have := HQ.out; omega] at h
                  exact h)))
                have j1 : ¬ (j : Int) < (q : Int) := by omega
                clear HK HB
                go_wp2_with fail
                go_round
                case rel => exact ⟨(v : Int) - 1, (v : Int), rfl, by go_num, by omega, by omega, HN⟩
                case measure => simp [intOf]
        · have hzz : z = -1 := by omega
          subst hzz
          have hb := HB.out
          clear HB
          rcases hb with ⟨hb1, hb2⟩ | ⟨b, hb1, hb2, hb3, hb4⟩
          · have HF : Hid (SortOut w n L (.returned (.tuple #[.slice none 0 0, .bool false])) wr) := Lib.hid ⟨out, HT.out.2.topo, fun v hv => hb2 v (by omega) hv, HT.out.2.pa.low, .inr ⟨by have := HT.out.1; omega, rfl⟩⟩
            subst hb1
            clear hb2 HT
            go_wp2_with fail
            go_ret2
            exact HF.out
          · subst hb1
            have hbn : b < n := hb2.1
            have hT2 : Topo n L (out ++ [(b : Int)]) := .snoc HT.out.2.topo hb2 (fun u hu => hb4 u (by omega) hu)
            have m1 : wr.cell? ⟨w.heap.size + 1, b, none⟩ = some (.bool (is told b)) := HT.out.2.row.at_ b (bl_at (by rw [HT.out.2.len]; exact hbn))
            have m2 : wr.frozen? ⟨w.heap.size + 1, b, none⟩ = false := HT.out.2.row.frozen b
            have hrow : Blk (wr.setCell ⟨w.heap.size + 1, b, none⟩ (.bool true)) (w.heap.size + 1) 4 (bl (told.set b true)).toArray := by rw [← bl_set]; exact HT.out.2.row.set_ b _
            have hpa : PA w (wr.setCell ⟨w.heap.size + 1, b, none⟩ (.bool true)) n A q c := ⟨HT.out.2.pa.low.setCell (p := ⟨w.heap.size + 1, b, none⟩) (Nat.le_succ _) _, HT.out.2.pa.b0.farN (by omega) _⟩
            have hmem : ∀ x : Nat, x < n → (is (told.set b true) x = true ↔ (x : Int) ∈ out ++ [(b : Int)]) := fun x hx => by
              rw [Gr.is_set (by rw [HT.out.2.len]; exact hbn), List.mem_append, List.mem_singleton, Bool.or_eq_true, decide_eq_true_eq, HT.out.2.mem x hx]
              constructor
              · rintro (e | e)
                · exact .inr (by rw [e])
                · exact .inl e
              · rintro (e | e)
                · exact .inr e
                · exact .inl (by omega)
            have HOW := Lib.hid (own_far HT.out.2.own (p := ⟨w.heap.size + 1, b, none⟩) (fun e => by have := (own_row HT.out.2.own e).1; have : w.heap.size + 2 ≤ w.heap.size + 1 := this; omega) (.bool true))
            have HT2 := Lib.hid hT2
            have HROW := Lib.hid hrow
            have HPA := Lib.hid hpa
            have HMEM := Lib.hid hmem
            have HLEN := Lib.hid (show (told.set b true).length = n by rw [List.length_set]; exact HT.out.2.len)
            have HM := Lib.hid HT.out.1
            have hsz : w.heap.size + 2 ≤ wr.heap.size := HT.out.2.row.lt
            have i2 : (0 : Int) ≤ (b : Int) := by omega
            have i3 : (b : Int) < (n : Int) := by omega
            have i4 : ¬ (b : Int) < 0 := by omega
            clear hT2 hrow hpa hmem HT hb2 hb3 hb4
            go_wp2_with (at_builtin; refine wpList_push rfl (.tmp 66) (.tmp 68) rfl (w.heap.size + 2) _ m out HM.out rfl (HOW.out.alloc _) wr.heap.size (b : Int) rfl (Blk.new_ _ _ _ (by simp)) (by omega) (by simp; omega) ?_)
            intro v5 w5 ho5 hg5 _
            obtain ⟨A5, c5, h5⟩ := own_form ho5
            subst h5
            have hge : ∀ b0, (Value.slice A9 m c9).ownBlock = some b0 → w.heap.size + 2 ≤ b0 := fun b0 hb0 => (own_row HOW.out hb0).1
            have HN : Hid (m + 1 = (out ++ [(b : Int)]).length ∧ ST w w5 n A q c L (out ++ [(b : Int)]) (told.set b true) (.slice A5 (m + 1) c5) (m + 1)) := Lib.hid ⟨by rw [List.length_append, ← HM.out]; rfl, ⟨(HPA.out.below ((Below.refl _ _).alloc (Nat.le_refl _) (.cells #[.int .i64 (b : Int)] 3))).grown hg5 (fun b0 hb0 => by have := hge b0 hb0; omega), (HROW.out.alloc _).grown hg5 (fun e => by have := hge _ e.symm; omega), HLEN.out, HMEM.out, HT2.out, ho5⟩⟩
            clear ho5 hg5 hge HOW HT2 HROW HPA HMEM HLEN HM m1 m2
            go_wp2_with fail
            go_roundw
            case rel => exact ⟨_, _, _, _, _, rfl, by omega, HN⟩
            case measure => simp [lenV]; omega
    · have i1 : ¬ (m : Int) < (n : Int) := by omega
      have HF : Hid (SortOut w n L (.returned (.tuple #[.slice A9 m c9, .bool true])) wr) := Lib.hid (by
        have hl : out.length = n := by have := HT.out.1; omega
        refine ⟨out, HT.out.2.topo, fun v hv => ?_, HT.out.2.pa.low, .inl ⟨hl, _, rfl, ?_⟩⟩
        · have := told_less HT.out.2.topo hv; omega
        · rw [← HT.out.1]
          exact own_base HT.out.2.own (by omega))
      clear HT
      go_wp2_with fail
      go_ret2
      exact HF.out
end Go.Proofs.Ytclbpohhmaojcaa.GrW
