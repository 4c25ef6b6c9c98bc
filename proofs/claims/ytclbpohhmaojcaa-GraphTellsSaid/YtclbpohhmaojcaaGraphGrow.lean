/-
  The walk of Grow.
-/
import Derived.Test.YtclbpohhmaojcaaGraphGrow0
import Derived.Test.YtclbpohhmaojcaaGraphRefuse
namespace Go.Proofs.Ytclbpohhmaojcaa.GrW
set_option linter.unusedVariables false
open Go Go.RowKit Go.Proofs Go.Proofs.Ytclbpohhmaojcaa Go.Proofs.Ytclbpohhmaojcaa.Wd

/-- May it grow by so many? -/
def canGrow (n : Nat) (k : Int) : Bool := decide (0 ≤ k) && decide ((n : Int) + k ≤ 10000)
def growL (L : List (List Int)) (m : Nat) : List (List Int) := L ++ List.replicate (2 * m) []
def GrowOut (base : Nat) (F : Nat → Prop) (g n : Nat) (L : List (List Int)) (k : Int) (w : World) (e : Ending) (w' : World) : Prop :=
  if canGrow n k then e = .returned (.int .i64 0) ∧ Upd base F g (n + k.toNat) (growL L k.toNat) w w' else e = .returned (.int .i64 2) ∧ w' = w
theorem GAt.grow {w w2 : World} {base g n m r c r' c' : Nat} {F : Nat → Prop} {cur cur' : Array Value} {L : List (List Int)} (hg : Blk w g 65 #[.bool true, .slice (some ⟨r, 0, none⟩) n c]) (hbg : base ≤ g) (hv : VRows w base r cur L) (hL : L.length = 2 * n) (hsz : cur.size = c * 2) (hnc : n ≤ c) (fg : F g) (fr : F r)
    (frow : ∀ i v b, i < L.length → cur[i]? = some v → v.ownBlock = some b → F b) (hbase : base ≤ w.heap.size) (hm : More w w2 r r' n m c' cur cur') :
    Upd base F g (n + m) (growL L m) w (w2.setCell ⟨g, 1, none⟩ (.slice (some ⟨r', 0, none⟩) (n + m) c')) := by
  have hgr : g ≠ r := fun e => by rw [e] at hg; exact hg.ne_ hv.blk (by decide) rfl
  have hg2 : Blk w2 g 65 #[.bool true, .slice (some ⟨r, 0, none⟩) n c] := hg.grown hm.grown (fun e => hgr (by simpa using e))
  have hgr' : r' ≠ g := by
    rcases hm.at_ with e | e
    · rw [e]; exact hgr.symm
    · have := hg.lt; omega
  have far' : base ≤ r' := by
    rcases hm.at_ with e | e
    · rw [e]; exact hv.far
    · omega
  have hl : (growL L m).length = 2 * (n + m) := by unfold growL; simp [hL]; omega
  have hrow : ∀ i (hi : i < (growL L m).length), ∃ v, cur'[i]? = some v ∧ IRow w2 base v (growL L m)[i] ∧ (i < L.length → cur[i]? = some v) ∧ (L.length ≤ i → v.ownBlock = none) := fun i hi => by
    by_cases hlt : i < L.length
    · obtain ⟨v, h1, h2⟩ := hv.row i hlt
      refine ⟨v, (hm.olds i (by omega)).trans h1, ?_, fun _ => h1, fun h => by omega⟩
      have e : (growL L m)[i] = L[i] := List.getElem_append_left hlt
      rw [e]
      refine h2.keep fun b hb => hm.grown.block b (h2.owns hb).2 (fun e2 => ?_)
      have : b = r := by simpa using e2
      exact hv.ne_row h2 hb this
    · refine ⟨.slice none 0 0, hm.news i (by omega) (by omega), ?_, fun h => absurd h hlt, fun _ => rfl⟩
      have e : (growL L m)[i] = [] := (List.getElem_append_right (by omega)).trans (by simp)
      rw [e]
      exact .inl ⟨rfl, rfl⟩
  have far : ∀ {t : TypeId} {b : Nat} {cs : Array Value} (u : Value), Blk w2 b t cs → b ≠ g → Blk (w2.setCell ⟨g, 1, none⟩ u) b t cs := fun u hb hne => hb.farN hne u
  refine ⟨fun k => F k ∨ w.heap.size ≤ k, ⟨r', c', cur', ?_, hbg, ⟨far _ hm.blk hgr', far', by rw [hl]; have := hm.size; have := hm.cap; omega, fun i hi => ?_, fun i j v u q hij hi hj h1 h2 h3 h4 => ?_⟩, hl, hm.cap, hm.max, hm.size, .inl fg, ?_, fun i v b hi h1 h2 => ?_⟩, ?_, fun j hj => hj⟩
  · exact hg2.set_ 1 _
  · obtain ⟨v, h1, h2, -⟩ := hrow i hi
    refine ⟨v, h1, h2.keep fun b hb => heap_setCell_other w2 ⟨g, 1, none⟩ b _ (fun e => ?_)⟩
    obtain ⟨_, cs, hb2⟩ := h2.blk hb
    have e' : b = g := e
    rw [e'] at hb2
    exact hg2.ne_ hb2 (by decide) rfl
  · obtain ⟨v2, e1, -, e2, e3⟩ := hrow i hi
    obtain ⟨u2, f1, -, f2, f3⟩ := hrow j hj
    rw [h1] at e1
    cases e1
    rw [h2] at f1
    cases f1
    by_cases a : i < L.length
    · by_cases b : j < L.length
      · exact hv.apart i j v u q hij a b (e2 a) (f2 b) h3 h4
      · rw [f3 (by omega)] at h4; cases h4
    · rw [e3 (by omega)] at h3; cases h3
  · rcases hm.at_ with e | e
    · rw [e]; exact .inl fr
    · exact .inr e
  · obtain ⟨v2, e1, -, e2, e3⟩ := hrow i hi
    rw [h1] at e1
    cases e1
    by_cases a : i < L.length
    · exact .inl (frow i v b a (e2 a) h2)
    · rw [e3 (by omega)] at h2; cases h2
  · exact (Fr.of_grown hm.grown (fun b hb => by have : r = b := by simpa using hb
                                                rw [← this]; exact fr)).set_ fg 1 _
set_option maxRecDepth 100000 in
theorem grow_all (w : World) (base g n : Nat) (F : Nat → Prop) (L : List (List Int)) (h : GAt w base F g n L) (hbase : base ≤ w.heap.size) (hn : n ≤ 10000) (k : Int) :
    Calls Try.prog 28 #[.pointer (some ⟨g, 0, none⟩), .int .i64 k] w (GrowOut base F g n L k w) := by
  obtain ⟨r, c, cur, h1, h2, h3, h4, h5, h6, h7, f1, f2, f3⟩ := h
  have HN := Lib.hid (none_any w g _ ⟨h1.cell 0, h1.cell 1⟩)
  have c1 : w.cell? ⟨g, 1, none⟩ = some (.slice (some ⟨r, 0, none⟩) n c) := h1.cell 1
  by_cases hk : canGrow n k = true
  · have hk2 : 0 ≤ k ∧ (n : Int) + k ≤ 10000 := by unfold canGrow at hk; simpa using hk
    obtain ⟨m, rfl⟩ : ∃ m : Nat, k = m := ⟨k.toNat, by omega⟩
    obtain ⟨r', c', cur', w2, hrun, hm⟩ := verts_more h3.blk h7 h5 h6 (fun i hi => by
      obtain ⟨v, e1, e2⟩ := h3.row i (by omega)
      obtain ⟨A, d, rfl⟩ := e2.lies
      exact ⟨_, e1, rfl⟩) m (by omega) 63
    have HF : Hid (GrowOut base F g n L (m : Int) w (.returned (.int .i64 0)) (w2.setCell ⟨g, 1, none⟩ (.slice (some ⟨r', 0, none⟩) (n + m) c'))) := Lib.hid (by
      unfold GrowOut
      rw [if_pos hk, Int.toNat_natCast]
      exact ⟨rfl, GAt.grow h1 h2 h3 h4 h7 h5 f1 f2 f3 hbase hm⟩)
    have hgr : g ≠ r := fun e => by rw [e] at h1; exact h1.ne_ h3.blk (by decide) rfl
    have hg2 : Blk w2 g 65 #[.bool true, .slice (some ⟨r, 0, none⟩) n c] := h1.grown hm.grown (fun e => hgr (by simpa using e))
    have hc2 := hg2.at_ 1 rfl
    have hz2 := hg2.frozen 1
    have HRUN := Lib.hid hrun
    have u0 : ¬ (m : Int) < 0 := by omega
    have u1 : ¬ (10000 - (n : Int)) < (m : Int) := by omega
    clear h1 h2 h3 h4 h5 h6 h7 f1 f2 f3 hm hrun hk hk2 hgr hg2
    go_enter Try.func28, Try.ntmps28
    go_wp2_with fail
    refine Calls.mono HN.out ?_
    rintro e w' ⟨rfl, rfl⟩
    clear HN
    go_wp2_with (at_builtin; refine Lib.wpList_append_run _ rfl (.tmp 25) (.tmp 26) 63 3 rfl _ _ rfl rfl _ _ HRUN.out ?_)
    clear HRUN
    go_wp2_with fail
    go_ret
    exact HF.out
  · have HF : Hid (GrowOut base F g n L k w (.returned (.int .i64 2)) w) := Lib.hid (by
      unfold GrowOut
      rw [if_neg hk]
      exact ⟨rfl, rfl⟩)
    have hk2 : k < 0 ∨ 10000 - (n : Int) < k := by
      unfold canGrow at hk
      simp only [Bool.and_eq_true, decide_eq_true_eq] at hk
      omega
    clear h1 h2 h3 h4 h5 h6 h7 f1 f2 f3 hk
    by_cases u0 : k < 0
    · clear hk2
      go_enter Try.func28, Try.ntmps28
      go_wp2_with fail
      refine Calls.mono HN.out ?_
      rintro e w' ⟨rfl, rfl⟩
      clear HN
      go_wp2_with fail
      go_ret
      exact HF.out
    · have u1 : 10000 - (n : Int) < k := hk2.resolve_left u0
      clear hk2
      go_enter Try.func28, Try.ntmps28
      go_wp2_with fail
      refine Calls.mono HN.out ?_
      rintro e w' ⟨rfl, rfl⟩
      clear HN
      go_wp2_with fail
      go_ret
      exact HF.out
end Go.Proofs.Ytclbpohhmaojcaa.GrW
