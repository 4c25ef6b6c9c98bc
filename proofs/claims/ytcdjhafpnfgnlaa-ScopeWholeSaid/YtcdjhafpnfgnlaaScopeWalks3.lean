/-
  The walks of Own.
-/
import Derived.Test.YtcdjhafpnfgnlaaScopeWalks2
namespace Go.Proofs.Ytcdjhafpnfgnlaa.ScW
set_option linter.unusedVariables false
open Go.RowKit Go.Proofs Go.Proofs.Ytcdjhafpnfgnlaa Go.Proofs.Ytcdjhafpnfgnlaa.Wd
open Go.Proofs.Ytcdjhafpnfgnlaa.Sc (N own flow rightAt right chain place chainI deep over below owned)

/-- A row of numbers of the call's own. -/
def IntsOut (w : World) (l : List Int) (e : Ending) (w' : World) : Prop :=
  ∃ A c, e = .returned (.slice A l.length c) ∧ Below w.heap.size w w' ∧ w'.ownsRow w.heap.size 3 1 (.slice A l.length c) l.length (iv l)
theorem infoInt : (Try.prog.info? 3).map (fun i => (i.zero, i.size, i.bytes)) = some (some (.int .i64 0), 1, 8) := by kernel_rfl
def toI (l : List Nat) : List Int := l.map fun (n : Nat) => (n : Int)
theorem toI_length (l : List Nat) : (toI l).length = l.length := by simp [toI]
theorem toI_append (a b : List Nat) : toI (a ++ b) = toI a ++ toI b := List.map_append
/-- Those of the first k that p holds. -/
def fil (p : Nat → Bool) (k : Nat) : List Nat := (List.range k).filter p
theorem fil_yes {p : Nat → Bool} {k : Nat} (h : p k = true) : fil p (k + 1) = fil p k ++ [k] := by unfold fil; rw [List.range_succ, List.filter_append]; simp [h]
theorem fil_no {p : Nat → Bool} {k : Nat} (h : p k = false) : fil p (k + 1) = fil p k := by unfold fil; rw [List.range_succ, List.filter_append]; simp [h]
theorem fil_le (p : Nat → Bool) (k : Nat) : (fil p k).length ≤ k := by
  have := List.length_filter_le p (List.range k)
  rw [List.length_range] at this; exact this
theorem owned_fil (ns : List N) (f o : Int) : owned ns f o = fil (fun k => decide (flow ns k = f) && decide (own ns k = o)) ns.length := rfl

set_option maxRecDepth 100000 in
set_option maxHeartbeats 4000000 in
theorem own_any (A : Option Addr) (c : Nat) (ns : List N) (n : Nat) (hn : n = ns.length) (hnc : n ≤ c) (hcm : c ≤ maxLen) (hnb : n ≤ 1000000000) (f o : Int) (w : World) (hI : Nodes w w.heap.size A ns) :
    Calls Try.prog 9 #[.slice A n c, .int .i64 f, .int .i64 o] w (IntsOut w (toI (owned ns f o))) := by
  unfold maxLen at hcm
  have HN := Lib.hid hn
  clear hn
  obtain ⟨i0, hi0, hz0, hz1, hz2⟩ := info_parts infoInt
  rw [owned_fil]
  have HFN := Lib.hid (show ns.length = n from HN.out.symm)
  go_enter Try.func9, Try.ntmps9
  go_wp2
  go_loopw [7, 12] (fun v i wr => ∃ k : Nat, k ≤ n ∧ i = .int .i64 k ∧ wr.ownsRow w.heap.size 3 1 v (fil (fun k => decide (flow ns k = f) && decide (own ns k = o)) k).length (iv (toI (fil (fun k => decide (flow ns k = f) && decide (own ns k = o)) k))) ∧ Below w.heap.size w wr) (fun _ i _ => n - (intOf i).toNat)
  case atStart => exact ⟨0, Nat.zero_le _, rfl, own_nil _ _ _, Below.refl _ _⟩
  case round =>
    obtain ⟨k, hk, rfl, hown, hB⟩ := hrel
    by_cases hlt : k < n
    · have hkr : k < ns.length := by have := HN.out; omega
      obtain ⟨b1, o1, cs, rfl, hb1, hcl, hra, h3, h4, h1⟩ := hI k hkr
      have hr : wr.rangeAt b1 (o1 + k * 16) cs := fun j v hv => (hB.cell (p := ⟨b1, _, none⟩) hb1).trans (hra j v hv)
      have HR := Lib.hid hr
      have hcz : cs.toArray.size = 16 := by simpa using hcl
      have HCZ := Lib.hid hcz
      have HCL := Lib.hid hcl
      clear hra hr hcz hcl
      have h1a : ∀ u ∈ cs.toArray.toList, u.oneCell' = true := fun u hu => h1 u (by simpa using hu)
      have hbz := below_setRow ((Below.refl _ wr).alloc (Nat.le_refl _) (.cells #[.string ⟨#[]⟩, .string ⟨#[]⟩, .int .u8 0, .int .i64 0, .int .i64 0, .int .i64 0, .slice none 0 0, .int .i64 0, .int .i64 0, .int .u8 0, .int .i64 0, .int .i64 0, .int .u8 0, .int .i64 0, .string ⟨#[]⟩, .slice none 0 0] 31)) (Nat.le_refl _) cs.toArray
      have bx := (Blk.new_ wr 31 #[.string ⟨#[]⟩, .string ⟨#[]⟩, .int .u8 0, .int .i64 0, .int .i64 0, .int .i64 0, .slice none 0 0, .int .i64 0, .int .i64 0, .int .u8 0, .int .i64 0, .int .i64 0, .int .u8 0, .int .i64 0, .string ⟨#[]⟩, .slice none 0 0] rfl).row cs.toArray
      have hB1 := hB.trans (hbz.mono hB.size)
      have ho1 := own_belowW hown hbz
      have hf := Blk.at_ (v := .int .i64 (flow ns k)) bx 3 (by simpa using h3)
      have ho := Blk.at_ (v := .int .i64 (own ns k)) bx 4 (by simpa using h4)
      have hbs := hB.size
      have hbound := fil_le (fun k => decide (flow ns k = f) && decide (own ns k = o)) k
      have hyes : flow ns k = f → own ns k = o → fil (fun k => decide (flow ns k = f) && decide (own ns k = o)) (k + 1) = fil (fun k => decide (flow ns k = f) && decide (own ns k = o)) k ++ [k] := fun h1 h2 => fil_yes (by simp [h1, h2])
      have hno : ¬ (flow ns k = f ∧ own ns k = o) → fil (fun k => decide (flow ns k = f) && decide (own ns k = o)) (k + 1) = fil (fun k => decide (flow ns k = f) && decide (own ns k = o)) k := fun h1 => fil_no (by simp only [Bool.and_eq_false_iff, decide_eq_false_iff_not]; exact Decidable.not_and_iff_or_not.1 h1)
      have HYES := Lib.hid hyes
      have HNO := Lib.hid hno
      clear hyes hno hbz hB hown h3 h4 bx
      generalize hq : fil (fun k => decide (flow ns k = f) && decide (own ns k = o)) k = F at *
      have HQ := Lib.hid hq
      clear hq
      by_cases c1 : flow ns k = f
      · by_cases c2 : own ns k = o
        · have u1 : (flow ns k == f) = true := by simpa using c1
          have u2 : (own ns k == o) = true := by simpa using c2
          have HX := Lib.hid (HYES.out c1 c2)
          clear c1 c2 HYES HNO
          have hnew := heap_alloc_new ((wr.alloc (.cells #[.string ⟨#[]⟩, .string ⟨#[]⟩, .int .u8 0, .int .i64 0, .int .i64 0, .int .i64 0, .slice none 0 0, .int .i64 0, .int .i64 0, .int .u8 0, .int .i64 0, .int .i64 0, .int .u8 0, .int .i64 0, .string ⟨#[]⟩, .slice none 0 0] 31)).setRow wr.heap.size cs.toArray) (.cells #[.int .i64 (k : Int)] 3)
          simp only [size_setRow, World.size_alloc] at hnew
          go_wp2_with (first | (refine wpList_load_mid rfl 31 (.tmp 15) rfl b1 (o1 + k * 16) rfl cs _ HR.out Try.underlying31 rfl (by rw [infoNode, HCL.out]) ?_) | (refine wpList_put_row rfl rfl 31 (.tmp 9) (.tmp 16) rfl wr.heap.size rfl 31 _ cs.toArray rfl (Blk.new_ _ _ _ rfl) (by rw [infoNode, HCZ.out]) (by rw [HCZ.out]; rfl) h1a ?_) | (at_builtin; refine wpList_append_lies _ rfl (.tmp 27) (.tmp 29) _ rfl w.heap.size 3 i0 _ 1 8 Try.underlying22 hi0 hz0 hz1 hz2 rfl (by omega) _ F.length _ rfl (ho1.alloc _) ⟨wr.heap.size + 1, 0, none⟩ 1 1 [.int .i64 (k : Int)] rfl rfl (World.news_of_block hnew) (by intro u hu; simp at hu; subst hu; rfl) (by omega) (by unfold maxLen; omega) (by omega) (by simp; omega) (wr.heap.size + 1 + 1) (by simp) ?_))
          intro g cap w2 hown2 hgrow _ _
          have hB2 := (hB1.alloc hB1.size (.cells #[.int .i64 (k : Int)] 3)).grown hgrow (by simp; omega) (fun j hj => (own_row (ho1.alloc (.cells #[.int .i64 (k : Int)] 3)) hj).1)
          have R1 : Hid (World.ownsRow w2 w.heap.size 3 1 (.slice (some ⟨g, 0, none⟩) (F.length + 1) cap) (fil (fun k => decide (flow ns k = f) && decide (own ns k = o)) (k + 1)).length (iv (toI (fil (fun k => decide (flow ns k = f) && decide (own ns k = o)) (k + 1))))) := Lib.hid (by
            rw [HX.out, List.length_append, toI_append, iv_append]; exact hown2)
          clear hgrow hown2 ho1 hnew hB1 hf ho
          go_wp2
          go_roundw
          case rel => exact ⟨k + 1, by omega, by go_num, R1.out, hB2⟩
          case measure => simp [intOf]; omega
        · have u1 : (flow ns k == f) = true := by simpa using c1
          have u2 : (own ns k == o) = false := by simpa using c2
          have HX := Lib.hid (HNO.out (fun h => c2 h.2))
          have R1 : Hid (World.ownsRow ((wr.alloc (.cells #[.string ⟨#[]⟩, .string ⟨#[]⟩, .int .u8 0, .int .i64 0, .int .i64 0, .int .i64 0, .slice none 0 0, .int .i64 0, .int .i64 0, .int .u8 0, .int .i64 0, .int .i64 0, .int .u8 0, .int .i64 0, .string ⟨#[]⟩, .slice none 0 0] 31)).setRow wr.heap.size cs.toArray) w.heap.size 3 1 u7 (fil (fun k => decide (flow ns k = f) && decide (own ns k = o)) (k + 1)).length (iv (toI (fil (fun k => decide (flow ns k = f) && decide (own ns k = o)) (k + 1))))) := Lib.hid (by rw [HX.out]; exact ho1)
          clear c1 c2 HYES HNO ho1
          go_wp2_with (first | (refine wpList_load_mid rfl 31 (.tmp 15) rfl b1 (o1 + k * 16) rfl cs _ HR.out Try.underlying31 rfl (by rw [infoNode, HCL.out]) ?_) | (refine wpList_put_row rfl rfl 31 (.tmp 9) (.tmp 16) rfl wr.heap.size rfl 31 _ cs.toArray rfl (Blk.new_ _ _ _ rfl) (by rw [infoNode, HCZ.out]) (by rw [HCZ.out]; rfl) h1a ?_))
          go_roundw
          case rel => exact ⟨k + 1, by omega, by go_num, R1.out, hB1⟩
          case measure => simp [intOf]; omega
      · have u1 : (flow ns k == f) = false := by simpa using c1
        have HX := Lib.hid (HNO.out (fun h => c1 h.1))
        have R1 : Hid (World.ownsRow ((wr.alloc (.cells #[.string ⟨#[]⟩, .string ⟨#[]⟩, .int .u8 0, .int .i64 0, .int .i64 0, .int .i64 0, .slice none 0 0, .int .i64 0, .int .i64 0, .int .u8 0, .int .i64 0, .int .i64 0, .int .u8 0, .int .i64 0, .string ⟨#[]⟩, .slice none 0 0] 31)).setRow wr.heap.size cs.toArray) w.heap.size 3 1 u7 (fil (fun k => decide (flow ns k = f) && decide (own ns k = o)) (k + 1)).length (iv (toI (fil (fun k => decide (flow ns k = f) && decide (own ns k = o)) (k + 1))))) := Lib.hid (by rw [HX.out]; exact ho1)
        clear c1 HYES HNO ho1
        go_wp2_with (first | (refine wpList_load_mid rfl 31 (.tmp 15) rfl b1 (o1 + k * 16) rfl cs _ HR.out Try.underlying31 rfl (by rw [infoNode, HCL.out]) ?_) | (refine wpList_put_row rfl rfl 31 (.tmp 9) (.tmp 16) rfl wr.heap.size rfl 31 _ cs.toArray rfl (Blk.new_ _ _ _ rfl) (by rw [infoNode, HCZ.out]) (by rw [HCZ.out]; rfl) h1a ?_))
        go_roundw
        case rel => exact ⟨k + 1, by omega, by go_num, R1.out, hB1⟩
        case measure => simp [intOf]; omega
    · obtain rfl : k = n := by omega
      obtain ⟨A3, c3, rfl⟩ := own_form hown
      go_wp2
      go_ret
      rw [HFN.out]
      exact ⟨A3, c3, by rw [toI_length]; rfl, hB, by rw [toI_length]; exact hown⟩

set_option maxRecDepth 100000 in
set_option maxHeartbeats 4000000 in
theorem refown_any (A : Option Addr) (c : Nat) (ns : List N) (n : Nat) (hn : n = ns.length) (hnc : n ≤ c) (hcm : c ≤ maxLen) (hnb : n ≤ 1000000000) (f o : Int) (w : World) (hI : Nodes w w.heap.size A ns) :
    Calls Try.prog 20 #[.slice A n c, .int .i64 f, .int .i64 o] w (IntsOut w (toI (owned ns f o))) := by
  unfold maxLen at hcm
  have HN := Lib.hid hn
  clear hn
  obtain ⟨i0, hi0, hz0, hz1, hz2⟩ := info_parts infoInt
  rw [owned_fil]
  have HFN := Lib.hid (show ns.length = n from HN.out.symm)
  go_enter Try.func20, Try.ntmps20
  go_wp2
  go_loopw [7, 8] (fun v i wr => ∃ k : Nat, k ≤ n ∧ i = .int .i64 k ∧ wr.ownsRow w.heap.size 3 1 v (fil (fun k => decide (flow ns k = f) && decide (own ns k = o)) k).length (iv (toI (fil (fun k => decide (flow ns k = f) && decide (own ns k = o)) k))) ∧ Below w.heap.size w wr) (fun _ i _ => n - (intOf i).toNat)
  case atStart => exact ⟨0, Nat.zero_le _, rfl, own_nil _ _ _, Below.refl _ _⟩
  case round =>
    obtain ⟨k, hk, rfl, hown, hB⟩ := hrel
    by_cases hlt : k < n
    · have hkr : k < ns.length := by have := HN.out; omega
      obtain ⟨b1, o1, rfl, hb1, hc4⟩ := hI.own_at hkr
      obtain ⟨_, _, e2, _, hc3⟩ := hI.flow_at hkr
      cases e2
      have ho := (hB.cell (p := ⟨b1, _, none⟩) hb1).trans hc4
      have hf := (hB.cell (p := ⟨b1, _, none⟩) hb1).trans hc3
      have i1 : (k : Int) < (n : Int) := by omega
      have i0' : (0 : Int) ≤ (k : Int) := by omega
      have hbs := hB.size
      have hbound := fil_le (fun k => decide (flow ns k = f) && decide (own ns k = o)) k
      have hyes : flow ns k = f → own ns k = o → fil (fun k => decide (flow ns k = f) && decide (own ns k = o)) (k + 1) = fil (fun k => decide (flow ns k = f) && decide (own ns k = o)) k ++ [k] := fun h1 h2 => fil_yes (by simp [h1, h2])
      have hno : ¬ (flow ns k = f ∧ own ns k = o) → fil (fun k => decide (flow ns k = f) && decide (own ns k = o)) (k + 1) = fil (fun k => decide (flow ns k = f) && decide (own ns k = o)) k := fun h1 => fil_no (by simp only [Bool.and_eq_false_iff, decide_eq_false_iff_not]; exact Decidable.not_and_iff_or_not.1 h1)
      have HYES := Lib.hid hyes
      have HNO := Lib.hid hno
      clear hyes hno hc3 hc4
      generalize hq : fil (fun k => decide (flow ns k = f) && decide (own ns k = o)) k = F at *
      clear hq
      by_cases c1 : flow ns k = f
      · by_cases c2 : own ns k = o
        · have u1 : (flow ns k == f) = true := by simpa using c1
          have u2 : (own ns k == o) = true := by simpa using c2
          have HX := Lib.hid (HYES.out c1 c2)
          clear c1 c2 HYES HNO
          go_wp2_with (at_builtin; refine wpList_append_lies _ rfl (.tmp 31) (.tmp 33) _ rfl w.heap.size 3 i0 _ 1 8 Try.underlying22 hi0 hz0 hz1 hz2 rfl (by omega) _ F.length _ rfl (hown.alloc _) ⟨wr.heap.size, 0, none⟩ 1 1 [.int .i64 (k : Int)] rfl rfl (World.news_of_block (heap_alloc_new wr _)) (by intro u hu; simp at hu; subst hu; rfl) (by omega) (by unfold maxLen; omega) (by omega) (by simp; omega) (wr.heap.size + 1) (by simp) ?_)
          intro g cap w2 hown2 hgrow _ _
          have hB2 := (hB.alloc hB.size (.cells #[.int .i64 (k : Int)] 3)).grown hgrow (by simp; omega) (fun j hj => (own_row (hown.alloc (.cells #[.int .i64 (k : Int)] 3)) hj).1)
          have R1 : Hid (World.ownsRow w2 w.heap.size 3 1 (.slice (some ⟨g, 0, none⟩) (F.length + 1) cap) (fil (fun k => decide (flow ns k = f) && decide (own ns k = o)) (k + 1)).length (iv (toI (fil (fun k => decide (flow ns k = f) && decide (own ns k = o)) (k + 1))))) := Lib.hid (by
            rw [HX.out, List.length_append, toI_append, iv_append]; exact hown2)
          clear hgrow hown2 hown hB hf ho
          go_wp2
          go_roundw
          case rel => exact ⟨k + 1, by omega, by go_num, R1.out, hB2⟩
          case measure => simp [intOf]; omega
        · have u1 : (flow ns k == f) = true := by simpa using c1
          have u2 : (own ns k == o) = false := by simpa using c2
          have HX := Lib.hid (HNO.out (fun h => c2 h.2))
          have R1 : Hid (World.ownsRow wr w.heap.size 3 1 u7 (fil (fun k => decide (flow ns k = f) && decide (own ns k = o)) (k + 1)).length (iv (toI (fil (fun k => decide (flow ns k = f) && decide (own ns k = o)) (k + 1))))) := Lib.hid (by rw [HX.out]; exact hown)
          clear c1 c2 HYES HNO hown
          go_wp2
          go_roundw
          case rel => exact ⟨k + 1, by omega, by go_num, R1.out, hB⟩
          case measure => simp [intOf]; omega
      · have u1 : (flow ns k == f) = false := by simpa using c1
        have HX := Lib.hid (HNO.out (fun h => c1 h.1))
        have R1 : Hid (World.ownsRow wr w.heap.size 3 1 u7 (fil (fun k => decide (flow ns k = f) && decide (own ns k = o)) (k + 1)).length (iv (toI (fil (fun k => decide (flow ns k = f) && decide (own ns k = o)) (k + 1))))) := Lib.hid (by rw [HX.out]; exact hown)
        clear c1 HYES HNO hown
        go_wp2
        go_roundw
        case rel => exact ⟨k + 1, by omega, by go_num, R1.out, hB⟩
        case measure => simp [intOf]; omega
    · obtain rfl : k = n := by omega
      obtain ⟨A3, c3, rfl⟩ := own_form hown
      go_wp2
      go_ret
      rw [HFN.out]
      exact ⟨A3, c3, by rw [toI_length]; rfl, hB, by rw [toI_length]; exact hown⟩
end Go.Proofs.Ytcdjhafpnfgnlaa.ScW
