/-
  The walk of Named.
-/
import Derived.Test.YtifmnoepifgaiaaNameForest
import Derived.Test.YtifmnoepifgaiaaNameAwake
namespace Go.Proofs.Ytifmnoepifgaiaa.NmW
set_option linter.unusedVariables false
open Go Go.RowKit Go.Maps Go.Sort Go.Shelf Go.Proofs Go.Proofs.Ytifmnoepifgaiaa Go.Proofs.Ytifmnoepifgaiaa.Wd Go.Proofs.Ytifmnoepifgaiaa.ScW Go.Proofs.Ytifmnoepifgaiaa.Nm Go.Proofs.Ytifmnoepifgaiaa.NmL
open Go.Proofs.Ytifmnoepifgaiaa.Sc (N own flow rightAt right chain place chainI deep over below owned)

/-- Nodes with names in a block of the call's own. -/
structure NF (w wr : World) (g m c : Nat) (ns : List N) (ss : List Str) : Prop where
  len : m = ns.length
  cap : m ≤ c
  max : c ≤ maxLen
  names : ss.length = ns.length
  low : w.heap.size ≤ g
  below : Below w.heap.size w wr
  lay : ∃ cs, Blk wr g 35 cs ∧ cs.size = c * 16 ∧ NCells (cs.toList.take (m * 16)) ns ss
theorem nm_set_ne {ss : List Str} {i j : Nat} (s : Str) (h : i ≠ j) : nm (ss.set i s) j = nm ss j := by
  unfold nm; simp [List.getD, List.getElem?_set_ne h]
theorem nm_set_eq {ss : List Str} {i : Nat} (s : Str) (h : i < ss.length) : nm (ss.set i s) i = s := by
  unfold nm; simp [List.getD, List.getElem?_set_self h]
theorem nm_set_size {ss : List Str} {k : Nat} {s : Str} {b : Nat} (h : ∀ j, (nm ss j).size ≤ b) (hs : s.size ≤ b) (j : Nat) : (nm (ss.set k s) j).size ≤ b := by
  by_cases hkj : k = j
  · subst hkj
    by_cases hl : k < ss.length
    · rw [nm_set_eq s hl]; exact hs
    · rw [List.set_eq_of_length_le (by omega)]; exact h k
  · rw [nm_set_ne s hkj]; exact h j
theorem NCells.set_ {xs : List Value} {ns : List N} {ss : List Str} (h : NCells xs ns ss) (hl : ss.length = ns.length) {i : Nat} (hi : i < ns.length) (s : Str) : NCells (xs.set (i * 16 + 1) (.string s)) ns (ss.set i s) := by
  obtain ⟨⟨h1, h2, h3⟩, h4⟩ := h
  refine ⟨⟨by rw [List.length_set, h1], fun j hj => ?_, fun u hu => ?_⟩, fun j hj => ?_⟩
  · rw [List.getElem?_set_ne (by omega), List.getElem?_set_ne (by omega)]
    exact h2 j hj
  · rcases List.mem_or_eq_of_mem_set hu with hu | rfl
    · exact h3 u hu
    · rfl
  · by_cases hij : i = j
    · subst hij
      rw [List.getElem?_set_self (by omega), nm_set_eq s (by omega)]
    · rw [List.getElem?_set_ne (by omega), nm_set_ne s hij]
      exact h4 j hj
section
variable {w wr w' : World} {g m c : Nat} {ns : List N} {ss : List Str}
theorem NF.nodes (h : NF w wr g m c ns ss) : NNodes wr wr.heap.size (some ⟨g, 0, none⟩) ns ss := by
  obtain ⟨cs, h1, h2, h3⟩ := h.lay
  have cell : ∀ i u, (cs.toList.take (m * 16))[i]? = some u → wr.cell? ⟨g, i, none⟩ = some u := fun i u hu => by
    rw [h1.cell]
    rw [List.getElem?_take] at hu
    split at hu
    · simpa using hu
    · cases hu
  refine ⟨fun j hj => ?_, fun j hj => ⟨g, 0, rfl, h1.lt, by rw [Nat.zero_add]; exact cell _ _ (h3.2 j hj)⟩⟩
  have hl := h3.1.1
  refine ⟨g, 0, ((cs.toList.take (m * 16)).drop (j * 16)).take 16, rfl, h1.lt, by rw [List.length_take, List.length_drop]; omega, fun i v hv => ?_, ?_, ?_, fun u hu => h3.1.2.2 u (List.mem_of_mem_drop (List.mem_of_mem_take hu))⟩
  · rw [Nat.zero_add]
    rw [List.getElem?_take] at hv
    split at hv
    · rw [List.getElem?_drop] at hv; exact cell _ _ hv
    · cases hv
  · rw [List.getElem?_take_of_lt (by omega), List.getElem?_drop]; exact (h3.1.2.1 j hj).1
  · rw [List.getElem?_take_of_lt (by omega), List.getElem?_drop]; exact (h3.1.2.1 j hj).2
theorem NF.set_ (h : NF w wr g m c ns ss) {i : Nat} (hi : i < m) (s : Str) : NF w (wr.setCell ⟨g, i * 16 + 1, none⟩ (.string s)) g m c ns (ss.set i s) := by
  obtain ⟨cs, h1, h2, h3⟩ := h.lay
  refine ⟨h.len, h.cap, h.max, by rw [List.length_set]; exact h.names, h.low, h.below.setCell (p := ⟨g, i * 16 + 1, none⟩) h.low _, _, h1.set_ (i * 16 + 1) (.string s), by simp [h2], ?_⟩
  rw [Array.toList_setIfInBounds, List.take_set]
  exact h3.set_ h.names (by have := h.len; omega) s
theorem NF.cell (h : NF w wr g m c ns ss) {i : Nat} (hi : i < m) : wr.cell? ⟨g, i * 16 + 1, none⟩ = some (.string (nm ss i)) ∧ wr.frozen? ⟨g, i * 16 + 1, none⟩ = false := by
  obtain ⟨cs, h1, h2, h3⟩ := h.lay
  refine ⟨?_, h1.frozen _⟩
  have := h3.2 i (by have := h.len; omega)
  rw [h1.cell]
  rw [List.getElem?_take] at this
  split at this
  · simpa using this
  · cases this
theorem NF.of_own {w2 : World} {A : Option Addr} {xs : List Value} (h : w2.ownsRow w.heap.size 35 16 (.slice A m c) m xs) (hm : 0 < m) (hn : m = ns.length) (hs : ss.length = ns.length) (hc : NCells xs ns ss) (hb : Below w.heap.size w w2) : ∃ g, A = some ⟨g, 0, none⟩ ∧ NF w w2 g m c ns ss := by
  rcases h.2 with ⟨_, h0⟩ | ⟨g, cap, cur, hv, hg, hh, hcc, hmx, hsz, ht⟩
  · omega
  · cases hv
    exact ⟨g, rfl, hn, hcc, hmx, hs, hg, hb, cur, hh, hsz, by rw [ht]; exact hc⟩
end
/-- What Named leaves. -/
def NamedOut (w : World) (n : Nat) (e : Ending) (w' : World) : Prop :=
  ∃ (A : Option Addr) (c m : Nat) (ns : List N) (ss : List Str), e = .returned (.slice A m c) ∧ m = ns.length ∧ m ≤ 60 ∧ m ≤ n ∧ m ≤ c ∧ c ≤ maxLen ∧ right ns = true ∧ (∀ k, k < m → KOk (key ns ss k)) ∧ NNodes w' w'.heap.size A ns ss ∧ Below w.heap.size w w' ∧ (0 < m → ∃ g, A = some ⟨g, 0, none⟩ ∧ NF w w' g m c ns ss)
/-- Three bits. -/
theorem mask7 (x : Int) : ∃ y : Nat, y ≤ 7 ∧ bits BinOp.and IntKind.i64 x 7 = (y : Int) := by
  have hle : (BitVec.ofInt 64 x &&& BitVec.ofInt 64 7).toNat ≤ 7 := by
    rw [BitVec.toNat_and]
    exact Nat.le_trans Nat.and_le_right (by decide)
  exact ⟨_, hle, IntWalk.i64_in _ ⟨Int.le_trans (by decide) (Int.natCast_nonneg _), Int.le_trans (Int.ofNat_le.2 hle) (by decide)⟩⟩
set_option maxRecDepth 100000 in
set_option maxHeartbeats 16000000 in
theorem named_any (A : Option Addr) (c : Nat) (l : List Int) (n : Nat) (hn : n = l.length) (hnc : n ≤ c) (hcm : c ≤ maxLen) (w : World) (hI : Nums w w.heap.size A l) :
    Calls Try.prog 6 #[.slice A n c] w (NamedOut w n) := by
  have HF := Lib.hid (nforest_any A c l n hn hnc hcm w hI)
  have HI := Lib.hid hI
  have HN := Lib.hid hn
  unfold maxLen at hcm
  clear hI hn
  go_enter Try.func6, Try.ntmps6
  go_wp2_with fail
  refine HF.out.mono ?_
  rintro e w1 ⟨A1, c1, ns, xs, rfl, h60, hln, hr, hown, hNC, hB⟩
  have hc1 := own_le hown
  have hc2 := own_cap' hown
  have HC2 := Lib.hid hc2
  unfold maxLen at hc2
  have HR := Lib.hid hr
  have HNC := Lib.hid hNC
  have HB := Lib.hid hB
  have HO := Lib.hid hown
  generalize hm : ns.length = m at *
  have HM := Lib.hid hm
  clear hm hr hNC hB hown HF
  by_cases hm0 : m = 0
  · subst hm0
    have hns : ns = [] := List.eq_nil_of_length_eq_zero HM.out
    have HNS := Lib.hid hns
    clear hns
    go_wp2_with fail
    go_loopw [10] (fun ix wr => ix = .int .i64 0 ∧ wr = w1) (fun ix _ => 0)
    case atStart => exact ⟨rfl, rfl⟩
    case round =>
      obtain ⟨rfl, hwr⟩ := hrel
      have hwr := hwr.symm
      subst hwr
      go_wp2_with fail
      go_ret
      exact ⟨A1, c1, 0, ns, [], rfl, HM.out.symm, by omega, by omega, by omega, HC2.out, HR.out, fun k hk => absurd hk (Nat.not_lt_zero _), by rw [HNS.out]; exact NNodes.nil, HB.out, fun h => absurd h (Nat.lt_irrefl _)⟩
  · have hss : (List.replicate m none_ : List Str).length = ns.length := by rw [List.length_replicate, HM.out]
    have hnc0 : NCells xs ns (List.replicate m none_) := ⟨HNC.out.1, fun j hj => by
      rw [HNC.out.2.1 j hj]
      have : nm (List.replicate m none_) j = none_ := by
        unfold nm
        simp [List.getD, List.getElem?_replicate]
        split <;> rfl
      rw [this]; rfl⟩
    obtain ⟨g, rfl, hNF⟩ := NF.of_own HO.out (by omega) HM.out.symm hss hnc0 HB.out
    have HNF : Hid (∃ ss : List Str, NF w w1 g m c1 ns ss ∧ ∀ k, (nm ss k).size ≤ 4) := Lib.hid ⟨_, hNF, fun k => by
      have : nm (List.replicate m none_) k = none_ := by
        unfold nm
        simp [List.getD, List.getElem?_replicate]
        split <;> rfl
      rw [this]; decide⟩
    clear hNF hnc0 hss HO
    go_wp2_with fail
    go_loopw [10] (fun ix wr => ∃ k : Nat, k ≤ m ∧ ix = .int .i64 k ∧ Hid (∃ ss : List Str, NF w wr g m c1 ns ss ∧ ∀ k, (nm ss k).size ≤ 4)) (fun ix _ => m - (intOf ix).toNat)
    case atStart => exact ⟨0, Nat.zero_le _, rfl, HNF⟩
    case round =>
      obtain ⟨k, hk, rfl, HS⟩ := hrel
      clear HNF
      by_cases hlt : k < m
      · have hkl : k < l.length := by have := HN.out; omega
        obtain ⟨ss, hS, hsz⟩ := HS.out
        obtain ⟨b, o, rfl, hbl, hc0⟩ := HI.out.at_ hkl
        have hc := (hS.below.cell (p := ⟨b, _, none⟩) hbl).trans hc0
        generalize l[k] = x at *
        obtain ⟨hw1, hw2⟩ := hS.cell hlt
        have HSS := Lib.hid hS
        have HSZ := Lib.hid hsz
        obtain ⟨y, hy, hyy⟩ := mask7 (x / 512)
        have i1 : (0 : Int) ≤ (k : Int) := by omega
        have i2 : (k : Int) < (m : Int) := by omega
        have i3 : (k : Int) < (n : Int) := by omega
        clear hc0 hbl hS hsz hkl HS
        have hsel : y = 0 ∨ y = 1 ∨ y = 2 ∨ y = 3 ∨ y = 4 ∨ y = 5 ∨ y = 6 ∨ y = 7 := by omega
        clear hy
        rcases hsel with rfl | rfl | rfl | rfl | rfl | rfl | rfl | rfl
        · go_wp2_with fail
          go_roundw
          case rel => exact ⟨k + 1, by omega, by go_num, Lib.hid ⟨_, HSS.out.set_ hlt _, nm_set_size HSZ.out (by decide)⟩⟩
          case measure => simp [intOf]; omega
        · go_wp2_with fail
          go_roundw
          case rel => exact ⟨k + 1, by omega, by go_num, Lib.hid ⟨_, HSS.out.set_ hlt _, nm_set_size HSZ.out (by decide)⟩⟩
          case measure => simp [intOf]; omega
        · go_wp2_with fail
          go_roundw
          case rel => exact ⟨k + 1, by omega, by go_num, Lib.hid ⟨_, HSS.out.set_ hlt _, nm_set_size HSZ.out (by decide)⟩⟩
          case measure => simp [intOf]; omega
        · go_wp2_with fail
          go_roundw
          case rel => exact ⟨k + 1, by omega, by go_num, Lib.hid ⟨_, HSS.out.set_ hlt _, nm_set_size HSZ.out (by decide)⟩⟩
          case measure => simp [intOf]; omega
        · go_wp2_with fail
          go_roundw
          case rel => exact ⟨k + 1, by omega, by go_num, Lib.hid ⟨_, HSS.out.set_ hlt _, nm_set_size HSZ.out (by decide)⟩⟩
          case measure => simp [intOf]; omega
        · go_wp2_with fail
          go_roundw
          case rel => exact ⟨k + 1, by omega, by go_num, Lib.hid ⟨_, HSS.out.set_ hlt _, nm_set_size HSZ.out (by decide)⟩⟩
          case measure => simp [intOf]; omega
        · go_wp2_with fail
          go_roundw
          case rel => exact ⟨k + 1, by omega, by go_num, Lib.hid ⟨_, HSS.out.set_ hlt _, nm_set_size HSZ.out (by decide)⟩⟩
          case measure => simp [intOf]; omega
        · go_wp2_with fail
          go_roundw
          case rel => exact ⟨k + 1, by omega, by go_num, Lib.hid ⟨ss, HSS.out, HSZ.out⟩⟩
          case measure => simp [intOf]; omega
      · obtain rfl : k = m := by omega
        obtain ⟨ss, hS, hsz⟩ := HS.out
        have HSS := Lib.hid hS
        have HSZ := Lib.hid hsz
        clear hS hsz HS
        go_wp2_with fail
        go_ret
        exact ⟨_, c1, k, ns, ss, rfl, HSS.out.len, by omega, by omega, by omega, HC2.out, HR.out, fun j hj => ⟨HNC.out.2.2 j (by rw [HM.out]; exact hj), WalkArith.wf_i64 (by have := (Sc.right_at HR.out (i := j) (by rw [HM.out]; exact hj)); show -(9223372036854775808 : Int) ≤ own ns j ∧ own ns j ≤ 9223372036854775807; omega), Nat.le_trans (HSZ.out j) (by decide)⟩, HSS.out.nodes, HSS.out.below, fun _ => ⟨g, rfl, HSS.out⟩⟩
end Go.Proofs.Ytifmnoepifgaiaa.NmW
