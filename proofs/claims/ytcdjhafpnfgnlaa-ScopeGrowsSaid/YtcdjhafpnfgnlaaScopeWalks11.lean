/-
  The walks of the reference's Deep, Over, Below.
-/
import Derived.Test.YtcdjhafpnfgnlaaScopeWalks10
import Derived.Test.YtcdjhafpnfgnlaaScopeWalks8
namespace Go.Proofs.Ytcdjhafpnfgnlaa.ScW
set_option linter.unusedVariables false
open Go.RowKit Go.Shelf Go.Proofs Go.Proofs.Ytcdjhafpnfgnlaa Go.Proofs.Ytcdjhafpnfgnlaa.Wd
open Go.Proofs.Ytcdjhafpnfgnlaa.Sc (N own flow rightAt right chain place chainI deep over below owned)

set_option maxRecDepth 100000 in
set_option maxHeartbeats 4000000 in
theorem refdeep_any (A : Option Addr) (c : Nat) (ns : List N) (n : Nat) (hn : n = ns.length) (hcm : n ≤ 1000000000000) (hr : right ns = true) (i : Int) (w : World) (hI : Nodes w w.heap.size A ns) :
    Calls Try.prog 17 #[.slice A n c, .int .i64 i] w fun e w' => e = .returned (.int .i64 (deep ns i : Nat)) ∧ Below w.heap.size w w' := by
  have HN := Lib.hid hn
  by_cases h1 : i < 0
  · have u1 : decide (i < 0) = true := by simpa using h1
    have hd : Hid (deep ns i = 0) := Lib.hid (by unfold deep place; rw [decide_eq_false (p := 0 ≤ i) (by omega)]; rfl)
    clear h1 hn
    go_enter Try.func17, Try.ntmps17
    go_wp2
    go_ret
    exact ⟨by rw [hd.out]; rfl, Below.refl _ _⟩
  have u1 : decide (i < 0) = false := by simpa using h1
  by_cases h2 : (n : Int) ≤ i
  · have u2 : decide ((n : Int) ≤ i) = true := by simpa using h2
    have hd : Hid (deep ns i = 0) := Lib.hid (by unfold deep place; rw [decide_eq_false (p := i < (ns.length : Int)) (by rw [← hn]; omega), Bool.and_false]; rfl)
    clear h1 h2 hn
    go_enter Try.func17, Try.ntmps17
    go_wp2
    go_ret
    exact ⟨by rw [hd.out]; rfl, Below.refl _ _⟩
  have u2 : decide ((n : Int) ≤ i) = false := by simpa using h2
  have hp : place ns i = true := by unfold place; rw [decide_eq_true (p := 0 ≤ i) (by omega), decide_eq_true (p := i < (ns.length : Int)) (by rw [← hn]; omega)]; rfl
  have hd : Hid (((deep ns i : Nat) : Int) = ((chainI ns i).length : Int) + 1) := Lib.hid (by unfold deep chainI; rw [hp]; rfl)
  have HLEN : Hid ((chainI ns i).length ≤ n) := Lib.hid (by rw [hn]; exact chainI_length)
  clear h1 h2 hn hp
  go_enter Try.func17, Try.ntmps17
  go_wp2_with fail
  refine Calls.mono (refchain_any A c ns n HN.out hcm hr i w hI) ?_
  rintro e w2 ⟨A2, c2, rfl, hb2, ho2⟩
  rw [toI_length] at ho2 ⊢
  have w1 : IntKind.i64.wrap (((chainI ns i).length : Int) + 1) = ((chainI ns i).length : Int) + 1 := IntWalk.i64_in _ (by have := HLEN.out; omega)
  clear ho2
  go_wp2
  go_ret
  exact ⟨by rw [hd.out]; rfl, hb2⟩

set_option maxRecDepth 100000 in
set_option maxHeartbeats 4000000 in
theorem refover_any (A : Option Addr) (c : Nat) (ns : List N) (n : Nat) (hn : n = ns.length) (hcm : n ≤ 1000000000000) (hr : right ns = true) (a b : Int) (w : World) (hI : Nodes w w.heap.size A ns) :
    Calls Try.prog 22 #[.slice A n c, .int .i64 a, .int .i64 b] w fun e w' => e = .returned (.bool (over ns a b)) ∧ Below w.heap.size w w' := by
  have HLEN : Hid ((chainI ns b).length ≤ n) := Lib.hid (by rw [hn]; exact chainI_length)
  have HN := Lib.hid hn
  clear hn
  have HOV : Hid (over ns a b = (toI (chainI ns b)).any fun o => decide (o = a)) := Lib.hid (by unfold over toI; rw [List.any_map]; rfl)
  go_enter Try.func22, Try.ntmps22
  go_wp2_with fail
  refine Calls.mono (refchain_any A c ns n HN.out hcm hr b w hI) ?_
  rintro e w2 h
  have hl := toI_length (chainI ns b)
  generalize toI (chainI ns b) = l at *
  obtain ⟨A2, c2, rfl, hb2, hm2, hn2, hc2⟩ := IntsOut.nums h (n := l.length) rfl
  clear h
  have HL := Lib.hid hl
  have hlb : l.length ≤ n := by have := HLEN.out; omega
  obtain ⟨x, hx⟩ : ∃ x, x = l.length := ⟨_, rfl⟩
  rw [← hx] at hn2 hlb ⊢
  have HX := Lib.hid hx
  clear hl hx
  go_wp2
  go_loopw [8] (fun i wr => ∃ k : Nat, k ≤ x ∧ i = .int .i64 k ∧ RowKit.Hid ((l.take k).any (fun o => decide (o = a)) = false) ∧ Below w2.heap.size w2 wr) (fun i _ => x - (intOf i).toNat)
  case atStart => exact ⟨0, Nat.zero_le _, rfl, Lib.hid rfl, Below.refl _ _⟩
  case round =>
    obtain ⟨k, hk, rfl, hT, hBr⟩ := hrel
    by_cases hlt : k < x
    · have hkl : k < l.length := by have := HX.out; omega
      obtain ⟨b1, o1, rfl, hb1, p1⟩ := hm2.at_ hkl
      have HE1 : Hid (l[k] ≠ a → (l.take (k + 1)).any (fun o => decide (o = a)) = false) := Lib.hid (fun h => by
        rw [List.take_succ_eq_append_getElem hkl, List.any_append, hT.out]; simp [h])
      have HE2 : Hid (l[k] = a → l.any (fun o => decide (o = a)) = true) := Lib.hid (fun h => List.any_eq_true.2 ⟨l[k], List.getElem_mem hkl, by simpa using h⟩)
      generalize l[k] = r at *
      have g1 := (hBr.cell (p := ⟨b1, _, none⟩) hb1).trans p1
      have i1 : (0 : Int) ≤ (k : Int) := by omega
      have i2 : (k : Int) < (x : Int) := by omega
      clear p1 hT
      by_cases he : r = a
      · have u5 : (r == a) = true := by simpa using he
        have hX := Lib.hid (HE2.out he)
        clear he HE1 HE2
        go_wp2
        go_ret
        exact ⟨by rw [HOV.out, hX.out]; rfl, hb2.trans (hBr.mono hb2.size)⟩
      · have u5 : (r == a) = false := by simpa using he
        have hX := Lib.hid (HE1.out he)
        clear he HE1 HE2
        go_wp2
        go_roundw
        case rel => exact ⟨k + 1, by omega, by go_num, hX, hBr⟩
        case measure => simp [intOf]; omega
    · obtain rfl : k = x := by omega
      have hX : Hid (l.any (fun o => decide (o = a)) = false) := Lib.hid (by have := hT.out; rwa [HX.out, List.take_length] at this)
      clear hT
      go_wp2
      go_ret
      exact ⟨by rw [HOV.out, hX.out]; rfl, hb2.trans (hBr.mono hb2.size)⟩

theorem below_all {ns : List N} (i : Int) : below ns i = fil (fun k => over ns i (k : Int)) ns.length := by
  unfold below
  cases hp : place ns i
  · rw [if_neg (by simp)]
    symm
    unfold fil
    rw [List.filter_eq_nil_iff]
    intro k hk
    rw [List.mem_range] at hk
    simp only [Bool.not_eq_true]
    rw [Bool.eq_false_iff]
    intro h
    rw [Sc.over_place (Sc.place_nat hk)] at h
    obtain ⟨o, ho, he⟩ := List.any_eq_true.1 h
    have := Sc.chain_lt ns _ _ ho
    simp at he this
    unfold place at hp
    simp at hp
    omega
  · rw [if_pos rfl]; rfl

set_option maxRecDepth 100000 in
set_option maxHeartbeats 4000000 in
theorem refbelow_any (A : Option Addr) (c : Nat) (ns : List N) (n : Nat) (hn : n = ns.length) (hcm : n ≤ 1000000000000) (hr : right ns = true) (i : Int) (w : World) (hI : Nodes w w.heap.size A ns) :
    Calls Try.prog 19 #[.slice A n c, .int .i64 i] w (IntsOut w (toI (below ns i))) := by
  have HN := Lib.hid hn
  have HFN := Lib.hid (show ns.length = n from hn.symm)
  clear hn
  obtain ⟨i0, hi0, hz0, hz1, hz2⟩ := info_parts infoInt
  rw [below_all]
  go_enter Try.func19, Try.ntmps19
  go_wp2
  go_loopw [5, 6] (fun v i' wr => ∃ k : Nat, k ≤ n ∧ i' = .int .i64 k ∧ wr.ownsRow w.heap.size 3 1 v (fil (fun k => over ns i (k : Int)) k).length (iv (toI (fil (fun k => over ns i (k : Int)) k))) ∧ Below w.heap.size w wr) (fun _ i' _ => n - (intOf i').toNat)
  case atStart => exact ⟨0, Nat.zero_le _, rfl, own_nil _ _ _, Below.refl _ _⟩
  case round =>
    obtain ⟨k, hk, rfl, hown, hB⟩ := hrel
    by_cases hlt : k < n
    · have hbs := hB.size
      have hbound := fil_le (fun k => over ns i (k : Int)) k
      have HYES : Hid (over ns i (k : Int) = true → fil (fun k => over ns i (k : Int)) (k + 1) = fil (fun k => over ns i (k : Int)) k ++ [k]) := Lib.hid (fun h => fil_yes h)
      have HNO : Hid (over ns i (k : Int) = false → fil (fun k => over ns i (k : Int)) (k + 1) = fil (fun k => over ns i (k : Int)) k) := Lib.hid (fun h => fil_no h)
      generalize hq : fil (fun k => over ns i (k : Int)) k = F at *
      clear hq
      have hI1 := hI.grow hB
      obtain ⟨A1, cp1, rfl⟩ := own_form hown
      go_wp2_with fail
      refine Calls.mono (refover_any A c ns n HN.out hcm hr i k _ hI1) ?_
      rintro e w2 ⟨rfl, hb2⟩
      have hB2 := hB.trans (hb2.mono hbs)
      have hbs2 := hB2.size
      have hown2 := own_belowW hown hb2
      clear hown hb2 hB hI1
      cases hov : over ns i (k : Int)
      · have HX := Lib.hid (HNO.out hov)
        have R1 : Hid (World.ownsRow w2 w.heap.size 3 1 (.slice A1 F.length cp1) (fil (fun k => over ns i (k : Int)) (k + 1)).length (iv (toI (fil (fun k => over ns i (k : Int)) (k + 1))))) := Lib.hid (by rw [HX.out]; exact hown2)
        clear hown2 HYES HNO hov
        go_wp2
        go_roundw
        case rel => exact ⟨k + 1, by omega, by go_num, R1.out, hB2⟩
        case measure => simp [intOf]; omega
      · have HX := Lib.hid (HYES.out hov)
        clear HYES HNO hov
        go_wp2_with (at_builtin; refine wpList_append_lies _ rfl (.tmp 17) (.tmp 19) _ rfl w.heap.size 3 i0 _ 1 8 Try.underlying22 hi0 hz0 hz1 hz2 rfl (by omega) _ F.length _ rfl (hown2.alloc _) ⟨w2.heap.size, 0, none⟩ 1 1 [.int .i64 (k : Int)] rfl rfl (World.news_of_block (heap_alloc_new w2 _)) (by intro u hu; simp at hu; subst hu; rfl) (by omega) (by unfold maxLen; omega) (by omega) (by simp; omega) (w2.heap.size + 1) (by simp) ?_)
        intro g cap w3 hown3 hgrow _ _
        have hB3 := (hB2.alloc hB2.size (.cells #[.int .i64 (k : Int)] 3)).grown hgrow (by simp; omega) (fun j hj => (own_row (hown2.alloc (.cells #[.int .i64 (k : Int)] 3)) hj).1)
        have R1 : Hid (World.ownsRow w3 w.heap.size 3 1 (.slice (some ⟨g, 0, none⟩) (F.length + 1) cap) (fil (fun k => over ns i (k : Int)) (k + 1)).length (iv (toI (fil (fun k => over ns i (k : Int)) (k + 1))))) := Lib.hid (by
          rw [HX.out, List.length_append, toI_append, iv_append]; exact hown3)
        clear hgrow hown3 hown2 hB2
        go_wp2
        go_roundw
        case rel => exact ⟨k + 1, by omega, by go_num, R1.out, hB3⟩
        case measure => simp [intOf]; omega
    · obtain rfl : k = n := by omega
      obtain ⟨A3, c3, rfl⟩ := own_form hown
      go_wp2
      go_ret
      rw [HFN.out]
      exact ⟨A3, c3, by rw [toI_length]; rfl, hB, by rw [toI_length]; exact hown⟩
end Go.Proofs.Ytcdjhafpnfgnlaa.ScW
