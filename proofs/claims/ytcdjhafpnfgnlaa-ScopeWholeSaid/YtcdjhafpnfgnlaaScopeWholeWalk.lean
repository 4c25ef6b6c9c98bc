/-
  The walk of ScopeWhole.
-/
import Derived.Test.YtcdjhafpnfgnlaaScopeWalks9
import Derived.Test.YtcdjhafpnfgnlaaScopeWholePl
import Derived.Test.YtcdjhafpnfgnlaaScopeArg
import Derived.Test.YtcdjhafpnfgnlaaWordsMap
namespace Go.Proofs.Ytcdjhafpnfgnlaa.ScW
set_option linter.unusedVariables false
open Go.RowKit Go.Shelf Go.Maps Go.Proofs Go.Proofs.Ytcdjhafpnfgnlaa Go.Proofs.Ytcdjhafpnfgnlaa.Wd
open Go.Proofs.Ytcdjhafpnfgnlaa.Sc (N own flow rightAt right chain place chainI deep over below owned)
open Go.Proofs.Ytcdjhafpnfgnlaa.ScP (vis)

theorem u8_of {x : Int} (h : (Lit.int .u8 x).wf = true) : ∃ a : Nat, x = a ∧ a < 256 := by
  have := bounds_u8 h
  exact ⟨x.toNat, by omega, by omega⟩
/-- One at each place that was met. -/
def ind (P : List Nat) (k : Nat) : Int := if k ∈ P then 1 else 0
def indC (n : Nat) (P : List Nat) : Array Value := ((List.range n).map fun k => Value.int .i64 (ind P k)).toArray
theorem indC_get {n k : Nat} (P : List Nat) (h : k < n) : (indC n P)[k]? = some (.int .i64 (ind P k)) := by
  unfold indC
  simp [h]
theorem indC_set {n i : Nat} (P : List Nat) (h : i < n) : (indC n P).setIfInBounds i (.int .i64 1) = indC n (P ++ [i]) := by
  apply Array.ext
  · simp [indC]
  · intro k h1 h2
    have hk : k < n := by simpa [indC] using h2
    by_cases e : i = k
    · subst e
      simp [indC, ind]
    · rw [Array.getElem_setIfInBounds]
      · rw [if_neg e]
        simp only [indC, ind, List.getElem_toArray, List.getElem_map, List.getElem_range, List.mem_append, List.mem_singleton]
        have : ¬ k = i := fun h => e h.symm
        simp [this]
      · simpa using h1
theorem indC_nil (n : Nat) : madeCells #[Value.int .i64 0] n = indC n [] := by
  apply Array.ext
  · simp [madeCells, indC]
  · intro i h1 h2
    simp [madeCells, indC, ind, Nat.mod_one]
theorem make_ints (n : Nat) (hn : n ≤ 100000) (W : World) : (Instr.makeSlice 22 (.int .i64 (n : Int)) (.int .i64 (n : Int))).run Try.prog W = .ok (.slice (some ⟨W.heap.size, 0, none⟩) n n) (W.alloc (.cells (indC n []) 3)) := by
  obtain ⟨j0, hj0, hy0, hy1, hy2⟩ := info_parts infoInt
  have h := run_make (P := Try.prog) W 22 3 j0 (.int .i64 0) Try.underlying22 hj0 hy0 .i64 .i64 (n : Int) (n : Int) (by omega) (Int.le_refl _) (by rw [hy2]; omega) (by omega)
  rw [Int.toNat_natCast, hy1, Nat.mul_one] at h
  rw [h, ← indC_nil]; rfl
/-- The row of what was met; all that was there ahead lies as it lay. -/
def Met (g n : Nat) (w1 W : World) (P : List Nat) : Prop := Below w1.heap.size w1 W ∧ Blk W g 3 (indC n P) ∧ w1.heap.size ≤ g
section
variable {g n : Nat} {w1 W W' : World} {P : List Nat}
theorem Met.grow (h : Met g n w1 W P) (hb : Below W.heap.size W W') : Met g n w1 W' P := ⟨h.1.trans (hb.mono h.1.size), h.2.1.below hb h.2.1.lt, h.2.2⟩
theorem Met.set_ (h : Met g n w1 W P) {i : Nat} (hi : i < n) : Met g n w1 (W.setCell ⟨g, i, none⟩ (.int .i64 1)) (P ++ [i]) :=
  ⟨h.1.setCell (p := ⟨g, i, none⟩) h.2.2 _, by rw [← indC_set P hi]; exact h.2.1.set_ i _, h.2.2⟩
theorem Met.at_ (h : Met g n w1 W P) {i : Nat} (hi : i < n) (hn : i ∉ P) : W.cell? ⟨g, i, none⟩ = some (.int .i64 0) ∧ W.frozen? ⟨g, i, none⟩ = false := by
  refine ⟨(h.2.1.cell i).trans ?_, h.2.1.frozen i⟩
  rw [indC_get P hi]; unfold ind; rw [if_neg hn]
theorem own_set {b2 : Nat} {A : Option Addr} {L c : Nat} {l : List Value} (h : W.ownsRow b2 3 1 (.slice A L c) L l) (hg : g < b2) (i : Nat) (u : Value) : (W.setCell ⟨g, i, none⟩ u).ownsRow b2 3 1 (.slice A L c) L l :=
  own_keep h fun j hj => heap_setCell_other W ⟨g, i, none⟩ j u (fun e => by have := (own_row h hj).1; have e' : j = g := e; omega)
end
theorem row_at {W : World} {b2 : Nat} {A : Option Addr} {L c : Nat} {ks : List Nat} (h : W.ownsRow b2 3 1 (.slice A L c) L (iv (toI ks))) {p : Nat} (hp : p < ks.length) : ∃ b o, A = some ⟨b, o, none⟩ ∧ W.cell? ⟨b, o + p, none⟩ = some (.int .i64 (ks[p] : Nat)) := by
  obtain ⟨hm, -, -, -⟩ := Nums.of_own h
  obtain ⟨b, o, e, -, hc⟩ := hm.at_ (j := p) (by rw [toI_length]; exact hp)
  refine ⟨b, o, e, hc.trans ?_⟩
  simp [toI]
theorem law : Keyed Try.prog 3 := int_keyed Try.underlying3
theorem zeroI (w : World) : (zeroValue 3).run Try.prog w = .ok (.int .i64 0) w := by kernel_rfl
/-- The map of what was met. -/
def MetM (g : Nat) (w1 W : World) (P : List Nat) : Prop :=
  Below w1.heap.size w1 W ∧ w1.heap.size ≤ g ∧ g < W.heap.size ∧ ∃ D : DataW Unit, W.ownsMap Try.prog 3 (plainElem Try.prog 3) g P.length D ∧ InMap D (toI P)
section
variable {g : Nat} {w1 W W' : World} {P : List Nat}
theorem MetM.grow (h : MetM g w1 W P) (hb : Below W.heap.size W W') : MetM g w1 W' P := by
  obtain ⟨h1, h2, h3, D, h4, h5⟩ := h
  exact ⟨h1.trans (hb.mono h1.size), h2, Nat.lt_of_lt_of_le h3 hb.size, D, ownsMap_below h4 hb h3, h5⟩
theorem toI_mem {l : List Nat} {i : Nat} : ((i : Nat) : Int) ∈ toI l ↔ i ∈ l := by
  unfold toI
  rw [List.mem_map]
  constructor
  · rintro ⟨a, ha, he⟩
    have : a = i := by omega
    subst this; exact ha
  · intro h; exact ⟨i, h, rfl⟩
theorem MetM.put {D : DataW Unit} {z : Nat} (h1 : Below w1.heap.size w1 W) (h2 : w1.heap.size ≤ g) (h3 : g < W.heap.size) (h5 : InMap D (toI P)) (hz : z ∉ P) (ho : W'.ownsMap Try.prog 3 (plainElem Try.prog 3) g (P.length + 1) (D.put (.int .i64 (z : Int)) (.lit (.int .i64 1)))) (hg : W.grownBy W' (some g)) : MetM g w1 W' (P ++ [z]) := by
  refine ⟨h1.grown hg h1.size (fun j hj => by cases hj; exact h2), h2, Nat.lt_of_lt_of_le h3 hg.size, _, by rw [List.length_append]; exact ho, ?_⟩
  rw [toI_append]
  exact h5.put (fun h => hz (toI_mem.1 h))
theorem own_grown {b2 : Nat} {A : Option Addr} {L c : Nat} {l : List Value} (h : W.ownsRow b2 3 1 (.slice A L c) L l) (hg : g < b2) (hgr : W.grownBy W' (some g)) : W'.ownsRow b2 3 1 (.slice A L c) L l :=
  own_keep h fun j hj => hgr.block j (by obtain ⟨_, cs, hc⟩ := own_row h hj; exact hc.lt) (by intro e; cases e; have := (own_row h hj).1; omega)
end
theorem owned_le (ns : List N) (f o : Int) : (owned ns f o).length ≤ ns.length := by
  unfold owned; exact Nat.le_trans (List.length_filter_le _ _) (by rw [List.length_range]; exact Nat.le_refl _)
theorem below_le {ns : List N} {i : Nat} (hi : i < ns.length) : (below ns (i : Int)).length ≤ ns.length := by
  rw [ScP.below_is hi]; exact Nat.le_trans (List.length_filter_le _ _) (by rw [List.length_range]; exact Nat.le_refl _)

set_option maxRecDepth 100000 in
set_option maxHeartbeats 8000000 in
theorem whole_walk (A : Option Addr) (c : Nat) (l : List Int) (m : Nat) (hm : m = l.length) (hmc : m ≤ c) (hcm : c ≤ maxLen) (a : Nat) (ha : a < 256) (w : World) (hI : Nums w w.heap.size A l) :
    Calls Try.prog 3 #[.slice A m c, .int .u8 a] w fun e w' => e = .returned (.bool true) ∧ Below w.heap.size w w' := by
  have HM := Lib.hid hm
  clear hm
  have hmm := @run_makeMap Try.prog
  go_enter Try.func3, Try.ntmps3
  go_wp2_with fail
  refine Calls.mono (forest_any A c l m HM.out hmc hcm w hI) ?_
  rintro e w1 ⟨A1, c1, ns, xs, rfl, h60, hr, hown, hNC, hb1⟩
  obtain ⟨-, hA1, hA2, hNN⟩ := own_nodes hown hNC
  obtain ⟨n, hn⟩ : ∃ n, n = ns.length := ⟨_, rfl⟩
  rw [← hn] at hA1 h60 ⊢
  have HN := Lib.hid hn
  have HR := Lib.hid hr
  have HA2 := Lib.hid hA2
  have hnb : n ≤ 1000000000 := by omega
  have hnb2 : n ≤ 1000000000000 := by omega
  have HNF : Hid (∀ W, Below w1.heap.size w1 W → Nodes W W.heap.size A1 ns) := Lib.hid fun W hW => hNN.grow hW
  have HB1 := Lib.hid hb1
  clear hn hr hI hNC hown hNN hb1 hA2 hcm hmc
  go_wp2_with fail
  go_loopw [26] (fun i W => ∃ f : Nat, f ≤ 2 ∧ i = .int .i64 f ∧ Hid (Below w1.heap.size w1 W)) (fun i _ => 2 - (intOf i).toNat)
  case atStart => exact ⟨0, by omega, rfl, Lib.hid (Below.refl _ _)⟩
  case round =>
    obtain ⟨f, hf, rfl, HW⟩ := hrel
    by_cases hlt : f < 2
    · have j1 : (f : Int) < 2 := by omega
      have hmk := make_ints n (by omega)
      have HF2 := Lib.hid hlt
      clear hlt hf hmm ha
      go_wp2_with fail
      have hsz : (wr.alloc (.cells (indC n []) 3)).heap.size = wr.heap.size + 1 := by simp
      have HM2 : Hid (Met wr.heap.size n w1 (wr.alloc (.cells (indC n []) 3)) []) := Lib.hid ⟨HW.out.alloc HW.out.size _, Blk.new_ wr 3 (indC n []) rfl, HW.out.size⟩
      clear hmk HW j1
      generalize hg : wr.heap.size = g at *
      clear hg
      generalize wr.alloc (.cells (indC n []) 3) = w2 at *
      refine Calls.mono (own_any A1 c1 ns n HN.out hA1 HA2.out hnb (f : Int) (-1) w2 (HNF.out _ HM2.out.1)) ?_
      rintro e w3 ⟨A3, c3, rfl, hb3, ho3⟩
      rw [toI_length] at ho3 ⊢
      have HKm : Hid (∀ k ∈ owned ns (f : Int) (-1), k < n) := Lib.hid fun k hk => by rw [HN.out]; exact (ScP.mem_owned.1 hk).1
      have HND := Lib.hid (ScP.vis_nodup HR.out (f : Int) (-1))
      have HMF : Hid (∀ x, x ∈ vis ns (owned ns (f : Int) (-1)) ↔ x < ns.length ∧ flow ns x = f) := Lib.hid fun x => ScP.mem_flow HR.out
      have hL60 := owned_le ns (f : Int) (-1)
      rw [← HN.out] at hL60
      generalize owned ns (f : Int) (-1) = ks at *
      obtain ⟨L, hL⟩ : ∃ L, L = ks.length := ⟨_, rfl⟩
      rw [← hL] at ho3 hL60 ⊢
      have HL := Lib.hid hL
      have hg2 : g < w2.heap.size := by omega
      have HM3 := Lib.hid (HM2.out.grow hb3)
      have HO3 := Lib.hid ho3
      generalize w2.heap.size = b2 at *
      clear hL hb3 ho3 HM2 hsz
      go_wp2_with fail
      go_loopw [36] (fun i W => ∃ p : Nat, p ≤ L ∧ i = .int .i64 p ∧ Hid (Met g n w1 W (vis ns (ks.take p))) ∧ Hid (W.ownsRow b2 3 1 (.slice A3 L c3) L (iv (toI ks)))) (fun i _ => L - (intOf i).toNat)
      case atStart => exact ⟨0, Nat.zero_le _, rfl, HM3, HO3⟩
      case round =>
        clear HM3 HO3
        obtain ⟨p, hp, rfl, HM, HO⟩ := hrel
        by_cases hlt2 : p < L
        · have hpl : p < ks.length := by rw [← HL.out]; exact hlt2
          obtain ⟨b1, o1, rfl, hcc⟩ := row_at HO.out hpl
          have HTK := Lib.hid (ScP.vis_take (ns := ns) hpl)
          obtain ⟨T, hT⟩ := ScP.vis_split (ns := ns) hpl
          have HT := Lib.hid hT
          have hz := HKm.out _ (List.getElem_mem hpl)
          have HPL := Lib.hid hlt2
          generalize ks[p]'hpl = z at *
          have hPn : z ∉ vis ns (ks.take p) := ScP.ahead HND.out (t := below ns (z : Int) ++ T) (by rw [HT.out]; simp)
          obtain ⟨hc0, hf0⟩ := HM.out.at_ hz hPn
          have i1 : (0 : Int) ≤ (p : Int) := by omega
          have i2 : (p : Int) < (L : Int) := by omega
          have i3 : (0 : Int) ≤ (z : Int) := by omega
          have i4 : (z : Int) < (n : Int) := by omega
          have HM4 := Lib.hid (HM.out.set_ hz)
          have HO4 := Lib.hid (own_set HO.out hg2 z (.int .i64 1))
          have HBL := Lib.hid (below_le (ns := ns) (i := z) (by rw [← HN.out]; exact hz))
          rw [← HN.out] at HBL
          have HBM : Hid (∀ k ∈ below ns (z : Int), k < n) := Lib.hid fun k hk => by rw [HN.out]; exact ((ScP.mem_below (by rw [← HN.out]; exact hz)).1 hk).1
          clear hPn hT hlt2 HM HO hpl
          go_wp2_with fail
          generalize wr.setCell ⟨g, z, none⟩ (.int .i64 1) = w4 at *
          refine Calls.mono (below_any A1 c1 ns n HN.out hA1 hnb2 HR.out (z : Int) w4 (HNF.out _ HM4.out.1)) ?_
          rintro e w5 ⟨A5, c5, rfl, hb5, ho5⟩
          rw [toI_length] at ho5 ⊢
          have hg4 : g < w4.heap.size := HM4.out.2.1.lt
          have HM5 := Lib.hid (HM4.out.grow hb5)
          have HO5 := Lib.hid (own_belowW HO4.out hb5)
          have HP5 := Lib.hid ho5
          generalize vis ns (ks.take p) = P at *
          generalize below ns (z : Int) = bl at *
          obtain ⟨M, hM⟩ : ∃ M, M = bl.length := ⟨_, rfl⟩
          have hM60 := HBL.out
          rw [← hM] at HP5 hM60 ⊢
          have HMM := Lib.hid hM
          generalize w4.heap.size = b4 at *
          clear hM hb5 ho5 HM4 HO4 HBL hcc hc0 hf0
          go_wp2_with fail
          go_loopw [50] (fun i W => ∃ q : Nat, q ≤ M ∧ i = .int .i64 q ∧ Hid (Met g n w1 W (P ++ [z] ++ bl.take q)) ∧ Hid (W.ownsRow b2 3 1 (.slice (some ⟨b1, o1, none⟩) L c3) L (iv (toI ks))) ∧ Hid (W.ownsRow b4 3 1 (.slice A5 M c5) M (iv (toI bl)))) (fun i _ => M - (intOf i).toNat)
          case atStart => exact ⟨0, Nat.zero_le _, rfl, by rw [List.take_zero, List.append_nil]; exact HM5, HO5, HP5⟩
          case round =>
            clear HM5 HO5 HP5
            obtain ⟨q, hq, rfl, HM, HO, HP⟩ := hrel
            by_cases hlt3 : q < M
            · have hql : q < bl.length := by rw [← HMM.out]; exact hlt3
              obtain ⟨b6, o6, rfl, hcc⟩ := row_at HP.out hql
              have hy := HBM.out _ (List.getElem_mem hql)
              have HTB : Hid (bl = bl.take q ++ bl[q] :: bl.drop (q + 1)) := Lib.hid (by rw [← List.drop_eq_getElem_cons hql, List.take_append_drop])
              have HT1 : Hid (bl.take (q + 1) = bl.take q ++ [bl[q]]) := Lib.hid (List.take_succ_eq_append_getElem hql)
              generalize bl[q]'hql = y at *
              have hPn : y ∉ P ++ [z] ++ bl.take q := ScP.ahead HND.out (t := bl.drop (q + 1) ++ T) (by rw [HT.out]; conv => lhs; rw [HTB.out]
                                                                                                        simp)
              obtain ⟨hc0, hf0⟩ := HM.out.at_ hy hPn
              have k1 : (0 : Int) ≤ (q : Int) := by omega
              have k2 : (q : Int) < (M : Int) := by omega
              have k3 : (0 : Int) ≤ (y : Int) := by omega
              have k4 : (y : Int) < (n : Int) := by omega
              have HM6 := Lib.hid (HM.out.set_ hy)
              rw [List.append_assoc, ← HT1.out] at HM6
              have HO6 := Lib.hid (own_set HO.out hg2 y (.int .i64 1))
              have HP6 := Lib.hid (own_set HP.out hg4 y (.int .i64 1))
              clear hPn HTB HT1 HM HO HP hql
              go_wp2_with fail
              go_roundw
              case rel => exact ⟨q + 1, by omega, by go_num, HM6, HO6, HP6⟩
              case measure => simp [intOf]; omega
            · obtain rfl : q = M := by omega
              have HM7 : Hid (Met g n w1 wr (vis ns (ks.take (p + 1)))) := Lib.hid (by
                have := HM.out
                rw [HMM.out, List.take_length] at this
                rw [HTK.out]
                simpa using this)
              have k2 : ¬ (q : Int) < (q : Int) := by omega
              clear hlt3 HM HP
              go_wp2_with fail
              go_roundw
              case rel => exact ⟨p + 1, HPL.out, by go_num, HM7, HO⟩
              case measure => simp [intOf]; have := HPL.out; omega
        · obtain rfl : p = L := by omega
          have HM8 : Hid (Met g n w1 wr (vis ns ks)) := Lib.hid (by
            have := HM.out
            rw [HL.out, List.take_length] at this
            exact this)
          have k2 : ¬ (p : Int) < (p : Int) := by omega
          clear hlt2 HM HO HKm HND
          generalize vis ns ks = V at *
          go_wp2_with fail
          clear k2
          go_loopw [64] (fun i W => ∃ j : Nat, j ≤ n ∧ i = .int .i64 j ∧ Hid (Met g n w1 W V)) (fun i _ => n - (intOf i).toNat)
          case atStart => exact ⟨0, Nat.zero_le _, rfl, HM8⟩
          case round =>
            clear HM8
            obtain ⟨j, hj, rfl, HM⟩ := hrel
            by_cases hlt4 : j < n
            · have hjl : j < ns.length := by rw [← HN.out]; exact hlt4
              obtain ⟨b1, o1, cs, rfl, hb1, hcl, hra, h3, h4, h1⟩ := HNF.out _ HM.out.1 j hjl
              have HRA := Lib.hid hra
              have hcz : cs.toArray.size = 16 := by simpa using hcl
              have HCZ := Lib.hid hcz
              have HCL := Lib.hid hcl
              have HH1 := Lib.hid (show ∀ u ∈ cs.toArray.toList, u.oneCell' = true from fun u hu => h1 u (by simpa using hu))
              have hbz := below_setRow ((Below.refl _ wr).alloc (Nat.le_refl _) (.cells #[.string ⟨#[]⟩, .string ⟨#[]⟩, .int .u8 0, .int .i64 0, .int .i64 0, .int .i64 0, .slice none 0 0, .int .i64 0, .int .i64 0, .int .u8 0, .int .i64 0, .int .i64 0, .int .u8 0, .int .i64 0, .string ⟨#[]⟩, .slice none 0 0] 31)) (Nat.le_refl _) cs.toArray
              have bx := (Blk.new_ wr 31 #[.string ⟨#[]⟩, .string ⟨#[]⟩, .int .u8 0, .int .i64 0, .int .i64 0, .int .i64 0, .slice none 0 0, .int .i64 0, .int .i64 0, .int .u8 0, .int .i64 0, .int .i64 0, .int .u8 0, .int .i64 0, .string ⟨#[]⟩, .slice none 0 0] rfl).row cs.toArray
              have hfl := Blk.at_ (v := .int .i64 (flow ns j)) bx 3 (by simpa using h3)
              have HM9 := Lib.hid (HM.out.grow hbz)
              have hcm := (HM9.out.2.1.cell j).trans (indC_get V hlt4)
              have i1 : (0 : Int) ≤ (j : Int) := by omega
              have i2 : (j : Int) < (n : Int) := by omega
              have HJ := Lib.hid hlt4
              clear hra hcl hcz h1 h3 h4 hbz bx HM hb1
              by_cases c1 : flow ns j = f
              · have u1 : (flow ns j == (f : Int)) = true := by simpa using c1
                have hi : ind V j = 1 := by unfold ind; rw [if_pos ((HMF.out j).2 ⟨hjl, c1⟩)]
                rw [hi] at hcm
                clear c1 hi hjl hlt4
                go_wp2_with (first | (refine wpList_load_mid rfl 31 (.tmp 67) rfl b1 (o1 + j * 16) rfl cs _ HRA.out Try.underlying31 rfl (by rw [infoNode, HCL.out]) ?_) | (refine wpList_put_row rfl rfl 31 (.tmp 13) (.tmp 68) rfl wr.heap.size rfl 31 _ cs.toArray rfl (Blk.new_ _ _ _ rfl) (by rw [infoNode, HCZ.out]) (by rw [HCZ.out]; rfl) HH1.out ?_))
                go_roundw
                case rel => exact ⟨j + 1, HJ.out, by go_num, HM9⟩
                case measure => simp [intOf]; have := HJ.out; omega
              · have u1 : (flow ns j == (f : Int)) = false := by simpa using c1
                have hi : ind V j = 0 := by unfold ind; rw [if_neg (fun h => c1 ((HMF.out j).1 h).2)]
                rw [hi] at hcm
                clear c1 hi hjl hlt4
                go_wp2_with (first | (refine wpList_load_mid rfl 31 (.tmp 67) rfl b1 (o1 + j * 16) rfl cs _ HRA.out Try.underlying31 rfl (by rw [infoNode, HCL.out]) ?_) | (refine wpList_put_row rfl rfl 31 (.tmp 13) (.tmp 68) rfl wr.heap.size rfl 31 _ cs.toArray rfl (Blk.new_ _ _ _ rfl) (by rw [infoNode, HCZ.out]) (by rw [HCZ.out]; rfl) HH1.out ?_))
                go_roundw
                case rel => exact ⟨j + 1, HJ.out, by go_num, HM9⟩
                case measure => simp [intOf]; have := HJ.out; omega
            · obtain rfl : j = n := by omega
              have k2 : ¬ (j : Int) < (j : Int) := by omega
              have hf2 := HF2.out
              clear hlt4
              go_wp2_with fail
              go_roundw
              case rel =>
                exact ⟨f + 1, by omega, by go_num, Lib.hid HM.out.1⟩
              case measure => simp [intOf]; have := HF2.out; omega
    · obtain rfl : f = 2 := by omega
      have j1 : ¬ ((2 : Nat) : Int) < 2 := by omega
      clear hlt hf
      have HBW := Lib.hid (HB1.out.trans (HW.out.mono HB1.out.size))
      have HFIN : Hid (∀ w9, Below w1.heap.size w1 w9 → Calls Try.prog 11 #[] w9 fun e w' => e = .returned (.bool true) ∧ Below w.heap.size w w') := Lib.hid fun w9 h9 => by
        refine Calls.mono (awake_any w9) ?_
        rintro e w10 ⟨rfl, hb10⟩
        have h8 := HB1.out.trans (h9.mono HB1.out.size)
        exact ⟨rfl, h8.trans (hb10.mono h8.size)⟩
      by_cases h0 : n = 0
      · have z0 : ((n : Int) == 0) = true := by simp [h0]
        clear h0 hmm
        go_wp2_with fail
        refine Calls.mono (HFIN.out _ HW.out) ?_
        rintro e wz ⟨rfl, hbz⟩
        go_wp2_with fail
        go_ret
        exact ⟨rfl, hbz⟩
      obtain ⟨r, hr1, hrn⟩ : ∃ i : Nat, (a : Int).tmod (n : Int) = (i : Int) ∧ i < n := ⟨a % n, by rw [Int.tmod_eq_emod_of_nonneg (Int.natCast_nonneg _)]; rfl, Nat.mod_lt _ (by omega)⟩
      have z1 : ((n : Int) == 0) = false := by simp [h0]
      have z0 : ¬ (n : Int) = 0 := by omega
      have wa : wrap64 (a : Int) = a := IntWalk.wrap64_in _ (by omega)
      obtain ⟨b7, o7, rfl, hb7, k3⟩ := (HNF.out _ HW.out).flow_at (j := r) (by rw [← HN.out]; exact hrn)
      have k3' : ∀ O : Obj, (wr.alloc O).cell? ⟨b7, o7 + r * 16 + 3, none⟩ = some (.int .i64 (flow ns r)) := fun O => (((Below.refl wr.heap.size wr).alloc (Nat.le_refl _) O).cell (p := ⟨b7, _, none⟩) hb7).trans k3
      have i1 : (0 : Int) ≤ (r : Int) := by omega
      have i2 : (r : Int) < (n : Int) := by omega
      have HRL : Hid (r < ns.length) := Lib.hid (by rw [← HN.out]; exact hrn)
      have HRN := Lib.hid hrn
      have hPL := ScP.place_length HR.out HRL.out
      have hPM : ∀ x, x ∈ vis ns (owned ns (flow ns r) (r : Int)) ↔ x ∈ below ns (r : Int) := fun x => ScP.mem_place HR.out HRL.out
      have HND := Lib.hid (ScP.vis_nodup HR.out (flow ns r) (r : Int))
      have HKm : Hid (∀ k ∈ owned ns (flow ns r) (r : Int), k < n) := Lib.hid fun k hk => by rw [HN.out]; exact (ScP.mem_owned.1 hk).1
      have hL60 := owned_le ns (flow ns r) (r : Int)
      rw [← HN.out] at hL60
      obtain ⟨ks, hks⟩ : ∃ ks, ks = owned ns (flow ns r) (r : Int) := ⟨_, rfl⟩
      rw [← hks] at hPL hPM HND HKm hL60
      have HKS := Lib.hid hks
      have HPL := Lib.hid hPL
      have HPM := Lib.hid hPM
      generalize flow ns r = fm at *
      clear hks hPL hPM k3 h0 ha hrn hb7
      go_wp2_with fail
      have hM0 := World.ownsMap_made (H := Unit) wr Try.prog 3 (plainElem Try.prog 3)
      have hsM : (wr.alloc (.map #[] 0)).heap.size = wr.heap.size + 1 := by simp
      have HM2 : Hid (MetM wr.heap.size w1 (wr.alloc (.map #[] 0)) []) := Lib.hid ⟨HW.out.alloc HW.out.size (.map #[] 0), HW.out.size, by omega, _, hM0, InMap.nil⟩
      have HBW2 : Hid (Below w1.heap.size w1 wr) := HW
      clear hM0 hmm z0 z1 wa hr1 j1 k3' i1 i2 HW HBW
      generalize hg : wr.heap.size = g at *
      clear hg
      generalize wr.alloc (.map #[] 0) = w2 at *
      refine Calls.mono (own_any (some ⟨b7, o7, none⟩) c1 ns n HN.out hA1 HA2.out hnb fm (r : Int) w2 (HNF.out _ HM2.out.1)) ?_
      rintro e w3 ⟨A3, c3, rfl, hb3, ho3⟩
      rw [← HKS.out, toI_length] at ho3 ⊢
      clear HKS
      obtain ⟨L, hL⟩ : ∃ L, L = ks.length := ⟨_, rfl⟩
      rw [← hL] at ho3 hL60 ⊢
      have HL := Lib.hid hL
      have hg2 : g < w2.heap.size := by omega
      have HM3 := Lib.hid (HM2.out.grow hb3)
      have HO3 := Lib.hid ho3
      generalize w2.heap.size = b2 at *
      clear hL hb3 ho3 HM2 hsM
      go_wp2_with fail
      go_loopw [100] (fun i W => ∃ p : Nat, p ≤ L ∧ i = .int .i64 p ∧ Hid (MetM g w1 W (vis ns (ks.take p))) ∧ Hid (W.ownsRow b2 3 1 (.slice A3 L c3) L (iv (toI ks)))) (fun i _ => L - (intOf i).toNat)
      case atStart => exact ⟨0, Nat.zero_le _, rfl, HM3, HO3⟩
      case round =>
        clear HM3 HO3
        obtain ⟨p, hp, rfl, HM, HO⟩ := hrel
        by_cases hlt2 : p < L
        · have hpl : p < ks.length := by rw [← HL.out]; exact hlt2
          obtain ⟨b1, o1, rfl, hcc⟩ := row_at HO.out hpl
          have HTK := Lib.hid (ScP.vis_take (ns := ns) hpl)
          obtain ⟨T, hT⟩ := ScP.vis_split (ns := ns) hpl
          have HT := Lib.hid hT
          have hz := HKm.out _ (List.getElem_mem hpl)
          have HPP := Lib.hid hlt2
          have HBN := below_le (ns := ns) HRL.out
          rw [← HPL.out, ← HN.out] at HBN
          generalize ks[p]'hpl = z at *
          have hPn : z ∉ vis ns (ks.take p) := ScP.ahead HND.out (t := below ns (z : Int) ++ T) (by rw [HT.out]; simp)
          have hlen0 : (vis ns (ks.take p)).length + (below ns (z : Int)).length ≤ n := by
            have := congrArg List.length HT.out
            simp only [List.length_append, List.length_cons] at this
            omega
          have hlen : (vis ns (ks.take p)).length < maxLen := by unfold maxLen; omega
          obtain ⟨hB4, hgg, hgl, D, hMp, hIP⟩ := HM.out
          have HIP := Lib.hid hIP
          have HNI : Hid (¬ ((z : Nat) : Int) ∈ toI (vis ns (ks.take p))) := Lib.hid (fun h => hPn (toI_mem.1 h))
          have HPN := Lib.hid hPn
          have HB4 := Lib.hid hB4
          have i1 : (0 : Int) ≤ (p : Int) := by omega
          have i2 : (p : Int) < (L : Int) := by omega
          have HBL := Lib.hid hlen0
          have HBM : Hid (∀ k ∈ below ns (z : Int), k < n) := Lib.hid fun k hk => by rw [HN.out]; exact ((ScP.mem_below (by rw [← HN.out]; exact hz)).1 hk).1
          have hkey : keyOf Try.prog 3 (.int .i64 (z : Int)) = some (.int .i64 (z : Int)) := keyOf_int_mk Try.underlying3 (WalkArith.wf_i64 (by omega))
          clear hPn hT hlt2 hpl hIP hB4 hlen0 HBN HM
          generalize vis ns (ks.take p) = P at *
          go_wp2_with (first | (at_lookup; refine wpList_lookup_own_int _ rfl _ _ 33 rfl 3 3 .i64 law Try.underlying33 Try.underlying3 (zeroI _) g P.length D rfl hMp _ _ rfl hkey ?_; intro cc hat hwc; obtain rfl : cc = 0 := by (rw [HIP.out.at_ hat, if_neg HNI.out])) | (at_mapUpdate; refine wpList_mapUpdate_own _ rfl _ _ _ 33 rfl 3 3 law Try.underlying33 _ g P.length D rfl hMp hlen _ _ _ rfl rfl hkey _ [] (plainElem_int Try.underlying3 (by decide)) ?_; intro w4 hown4 hgrow4) | fail)
          have HM4 : Hid (MetM g w1 w4 (P ++ [z])) := Lib.hid (MetM.put HB4.out hgg hgl HIP.out HPN.out hown4 hgrow4)
          have HO4 := Lib.hid (own_grown HO.out hg2 hgrow4)
          clear hown4 hgrow4 hMp HB4 HIP HPN HNI hkey hlen HO hgg hgl hcc
          go_wp2_with fail
          refine Calls.mono (below_any (some ⟨b7, o7, none⟩) c1 ns n HN.out hA1 hnb2 HR.out (z : Int) w4 (HNF.out _ HM4.out.1)) ?_
          rintro e w5 ⟨A5, c5, rfl, hb5, ho5⟩
          rw [toI_length] at ho5 ⊢
          have hg4 : g < w4.heap.size := HM4.out.2.2.1
          have HM5 := Lib.hid (HM4.out.grow hb5)
          have HO5 := Lib.hid (own_belowW HO4.out hb5)
          have HP5 := Lib.hid ho5
          generalize below ns (z : Int) = bl at *
          obtain ⟨M, hM⟩ : ∃ M, M = bl.length := ⟨_, rfl⟩
          have hM60 := HBL.out
          rw [← hM] at HP5 hM60 ⊢
          have HMM := Lib.hid hM
          generalize w4.heap.size = b4 at *
          clear hM hb5 ho5 HM4 HO4 HBL
          go_wp2_with fail
          go_loopw [112] (fun i W => ∃ q : Nat, q ≤ M ∧ i = .int .i64 q ∧ Hid (MetM g w1 W (P ++ [z] ++ bl.take q)) ∧ Hid (W.ownsRow b2 3 1 (.slice (some ⟨b1, o1, none⟩) L c3) L (iv (toI ks))) ∧ Hid (W.ownsRow b4 3 1 (.slice A5 M c5) M (iv (toI bl)))) (fun i _ => M - (intOf i).toNat)
          case atStart => exact ⟨0, Nat.zero_le _, rfl, by rw [List.take_zero, List.append_nil]; exact HM5, HO5, HP5⟩
          case round =>
            clear HM5 HO5 HP5
            obtain ⟨q, hq, rfl, HM, HO, HP⟩ := hrel
            by_cases hlt3 : q < M
            · have hql : q < bl.length := by rw [← HMM.out]; exact hlt3
              obtain ⟨b6, o6, rfl, hcc⟩ := row_at HP.out hql
              have hy := HBM.out _ (List.getElem_mem hql)
              have HTB : Hid (bl = bl.take q ++ bl[q] :: bl.drop (q + 1)) := Lib.hid (by rw [← List.drop_eq_getElem_cons hql, List.take_append_drop])
              have HT1 : Hid (bl.take (q + 1) = bl.take q ++ [bl[q]]) := Lib.hid (List.take_succ_eq_append_getElem hql)
              generalize bl[q]'hql = y at *
              have hPn : y ∉ P ++ [z] ++ bl.take q := ScP.ahead HND.out (t := bl.drop (q + 1) ++ T) (by rw [HT.out]; conv => lhs; rw [HTB.out]
                                                                                                        simp)
              have hlen : (P ++ [z] ++ bl.take q).length < maxLen := by
                simp only [List.length_append, List.length_take, List.length_singleton]
                unfold maxLen; omega
              obtain ⟨hB4, hgg, hgl, D, hMp, hIP⟩ := HM.out
              have HIP := Lib.hid hIP
              have HNI : Hid (¬ ((y : Nat) : Int) ∈ toI (P ++ [z] ++ bl.take q)) := Lib.hid (fun h => hPn (toI_mem.1 h))
              have HPN := Lib.hid hPn
              have HB4 := Lib.hid hB4
              have k1 : (0 : Int) ≤ (q : Int) := by omega
              have k2 : (q : Int) < (M : Int) := by omega
              have hkey : keyOf Try.prog 3 (.int .i64 (y : Int)) = some (.int .i64 (y : Int)) := keyOf_int_mk Try.underlying3 (WalkArith.wf_i64 (by omega))
              have HQ := Lib.hid hlt3
              obtain ⟨PP, hPP⟩ : ∃ PP, PP = P ++ [z] ++ bl.take q := ⟨_, rfl⟩
              rw [← hPP] at hMp HIP HNI HPN hlen
              have HPPE := Lib.hid hPP
              clear hPn HTB hIP hB4 hql HM hPP hlt3
              go_wp2_with (first | (at_lookup; refine wpList_lookup_own_int _ rfl _ _ 33 rfl 3 3 .i64 law Try.underlying33 Try.underlying3 (zeroI _) g PP.length D rfl hMp _ _ rfl hkey ?_; intro cc hat hwc; obtain rfl : cc = 0 := by (rw [HIP.out.at_ hat, if_neg HNI.out])) | (at_mapUpdate; refine wpList_mapUpdate_own _ rfl _ _ _ 33 rfl 3 3 law Try.underlying33 _ g PP.length D rfl hMp hlen _ _ _ rfl rfl hkey _ [] (plainElem_int Try.underlying3 (by decide)) ?_; intro w4 hown4 hgrow4) | fail)
              have HM6 := Lib.hid (MetM.put HB4.out hgg hgl HIP.out HPN.out hown4 hgrow4)
              rw [HPPE.out, List.append_assoc, ← HT1.out] at HM6
              have HO6 := Lib.hid (own_grown HO.out hg2 hgrow4)
              have HP6 := Lib.hid (own_grown HP.out hg4 hgrow4)
              clear hown4 hgrow4 hMp HB4 HIP HPN HNI hkey hlen HO HP hgg hgl hcc
              go_wp2_with fail
              go_roundw
              case rel => exact ⟨q + 1, HQ.out, by go_num, HM6, HO6, HP6⟩
              case measure => simp [intOf]; have := HQ.out; omega
            · obtain rfl : q = M := by omega
              have HM7 : Hid (MetM g w1 wr (vis ns (ks.take (p + 1)))) := Lib.hid (by
                have := HM.out
                rw [HMM.out, List.take_length] at this
                rw [HTK.out]
                simpa using this)
              have k2 : ¬ (q : Int) < (q : Int) := by omega
              clear hlt3 HM HP
              go_wp2_with fail
              go_roundw
              case rel => exact ⟨p + 1, HPP.out, by go_num, HM7, HO⟩
              case measure => simp [intOf]; have := HPP.out; omega
        · obtain rfl : p = L := by omega
          have HM8 : Hid (MetM g w1 wr (vis ns ks)) := Lib.hid (by
            have := HM.out
            rw [HL.out, List.take_length] at this
            exact this)
          have k2 : ¬ (p : Int) < (p : Int) := by omega
          clear hlt2 HM HO HKm HND
          generalize vis ns ks = V at *
          go_wp2_with fail
          clear k2
          refine Calls.mono (below_any (some ⟨b7, o7, none⟩) c1 ns n HN.out hA1 hnb2 HR.out (r : Int) wr (HNF.out _ HM8.out.1)) ?_
          rintro e w5 ⟨A5, c5, rfl, hb5, ho5⟩
          rw [toI_length] at ho5 ⊢
          have HM5 := HM8.out.grow hb5
          have HP5 := Lib.hid ho5
          have HLT := Lib.hid (ScP.below_lt HRL.out)
          have HGT : Hid (∀ x, x ∈ below ns (r : Int) → r < x ∧ x < n) := Lib.hid fun x hx => ⟨ScP.below_gt HRL.out hx, by rw [HN.out]; exact ((ScP.mem_below HRL.out).1 hx).1⟩
          have hM60 := below_le (ns := ns) HRL.out
          rw [← HN.out] at hM60
          generalize below ns (r : Int) = bl at *
          obtain ⟨M, hM⟩ : ∃ M, M = bl.length := ⟨_, rfl⟩
          rw [← hM] at HP5 hM60 ⊢
          have HMM := Lib.hid hM
          obtain ⟨hB5, hgg, hgl, D, hMp, hIP⟩ := HM5
          have HB5 := Lib.hid hB5
          have HIP := Lib.hid hIP
          have HSZ : Hid (Maps.size D = M) := Lib.hid (by rw [HIP.out.2.2.2, toI_length, HPL.out, HMM.out])
          clear hM hb5 ho5 HM8 hB5 hIP hgg hgl
          go_wp2_with fail
          go_loop [127] (fun i => ∃ t : Nat, t ≤ M ∧ i = .int .i64 t) (fun i => M - (intOf i).toNat)
          case atStart => exact ⟨0, Nat.zero_le _, rfl⟩
          case round =>
            obtain ⟨t, ht, rfl⟩ := hrel
            by_cases hlt3 : t < M
            · have hql : t < bl.length := by rw [← HMM.out]; exact hlt3
              obtain ⟨b6, o6, rfl, hcc⟩ := row_at HP5.out hql
              have hy := HGT.out _ (List.getElem_mem hql)
              have HIN : Hid (((bl[t]'hql : Nat) : Int) ∈ toI V) := Lib.hid (toI_mem.2 ((HPM.out _).2 (List.getElem_mem hql)))
              have k1 : (0 : Int) ≤ (t : Int) := by omega
              have k2 : (t : Int) < (M : Int) := by omega
              have HQ := Lib.hid hlt3
              by_cases ht0 : t = 0
              · generalize bl[t]'hql = y at *
                have hkey : keyOf Try.prog 3 (.int .i64 (y : Int)) = some (.int .i64 (y : Int)) := keyOf_int_mk Try.underlying3 (WalkArith.wf_i64 (by omega))
                have u1 : ¬ (0 : Int) < (t : Int) := by omega
                have u2 : ¬ (y : Int) ≤ (r : Int) := by omega
                clear ht0 hql hlt3 ht hy
                go_wp2_with (first | (at_lookup; refine wpList_lookup_own_int _ rfl _ _ 33 rfl 3 3 .i64 law Try.underlying33 Try.underlying3 (zeroI _) g V.length D rfl hMp _ _ rfl hkey ?_; intro cc hat hwc; obtain rfl : cc = 1 := by (rw [HIP.out.at_ hat, if_pos HIN.out])) | fail)
                go_round
                case rel => exact ⟨t + 1, HQ.out, by go_num⟩
                case measure => simp [intOf]; have := HQ.out; omega
              · have hpr : t - 1 < bl.length := by omega
                obtain ⟨b8, o8, e8, hcp⟩ := row_at HP5.out hpr
                cases e8
                have hlt9 : bl[t - 1]'hpr < bl[t]'hql := List.pairwise_iff_getElem.1 HLT.out (t - 1) t hpr hql (by omega)
                generalize bl[t]'hql = y at *
                generalize bl[t - 1]'hpr = x at *
                have hkey : keyOf Try.prog 3 (.int .i64 (y : Int)) = some (.int .i64 (y : Int)) := keyOf_int_mk Try.underlying3 (WalkArith.wf_i64 (by omega))
                have u1 : (0 : Int) < (t : Int) := by omega
                have u2 : ¬ (y : Int) ≤ (r : Int) := by omega
                have u3 : ¬ (y : Int) ≤ (x : Int) := by omega
                have j1 : (0 : Int) ≤ (t : Int) - 1 := by omega
                have j2 : (t : Int) - 1 < (M : Int) := by omega
                clear ht0 hql hlt3 ht hy hpr hlt9
                go_wp2_with (first | (at_lookup; refine wpList_lookup_own_int _ rfl _ _ 33 rfl 3 3 .i64 law Try.underlying33 Try.underlying3 (zeroI _) g V.length D rfl hMp _ _ rfl hkey ?_; intro cc hat hwc; obtain rfl : cc = 1 := by (rw [HIP.out.at_ hat, if_pos HIN.out])) | fail)
                go_round
                case rel => exact ⟨t + 1, HQ.out, by go_num⟩
                case measure => simp [intOf]; have := HQ.out; omega
            · obtain rfl : t = M := by omega
              have k2 : ¬ (t : Int) < (t : Int) := by omega
              clear hlt3 ht
              go_wp2_with (first | (at_len; refine wpList_len_own _ rfl _ 33 rfl 3 3 Try.underlying33 _ g V.length D rfl hMp ?_; rw [HSZ.out]) | fail)
              clear k2
              refine Calls.mono (right_any (some ⟨b7, o7, none⟩) c1 ns n HN.out hA1 HA2.out w5 (HNF.out _ HB5.out)) ?_
              rintro e w8 ⟨rfl, hb8⟩
              rw [HR.out]
              have HB8 := Lib.hid (HB5.out.trans (hb8.mono HB5.out.size))
              clear hMp hb8
              go_wp2_with fail
              refine Calls.mono (HFIN.out _ HB8.out) ?_
              rintro e w9 ⟨rfl, hb9⟩
              go_wp2_with fail
              go_ret
              exact ⟨rfl, hb9⟩
end Go.Proofs.Ytcdjhafpnfgnlaa.ScW
