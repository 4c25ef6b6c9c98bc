/-
  The walks of Right, place, the reference's Right.
-/
import Derived.Test.YtcdjhafpnfgnlaaProg
import Derived.Test.YtcdjhafpnfgnlaaScopePlain
import Derived.Test.YtcdjhafpnfgnlaaWordsMore
import Derived.Deep.MidRow
import Derived.BigQuiet
import Derived.Deep.QuietTactic
namespace Go.Proofs.Ytcdjhafpnfgnlaa.ScW
set_option linter.unusedVariables false
open Go.RowKit Go.Proofs Go.Proofs.Ytcdjhafpnfgnlaa Go.Proofs.Ytcdjhafpnfgnlaa.Wd
open Go.Proofs.Ytcdjhafpnfgnlaa.Sc (N own flow rightAt right chain place chainI deep over below owned)

/-- A slice of nodes: from its address they lie one behind the other, below block B. -/
def Nodes (w : World) (B : Nat) (A : Option Addr) (ns : List N) : Prop :=
  ∀ j, j < ns.length → ∃ b off cs, A = some ⟨b, off, none⟩ ∧ b < B ∧ cs.length = 16 ∧ w.rangeAt b (off + j * 16) cs ∧ cs[3]? = some (.int .i64 (flow ns j)) ∧ cs[4]? = some (.int .i64 (own ns j)) ∧ ∀ v ∈ cs, v.oneCell' = true
section
variable {w w' : World} {B B' : Nat} {A : Option Addr} {ns : List N}
theorem Nodes.nil : Nodes w B A [] := fun _ h => absurd h (Nat.not_lt_zero _)
theorem Nodes.keep (h : Nodes w B A ns) (hk : ∀ p : Addr, p.block < B → w'.cell? p = w.cell? p) : Nodes w' B A ns := fun j hj => by
  obtain ⟨b, off, cs, e, hb, hl, hr, h3, h4, h1⟩ := h j hj
  exact ⟨b, off, cs, e, hb, hl, fun i v hv => (hk ⟨b, _, none⟩ hb).trans (hr i v hv), h3, h4, h1⟩
theorem Nodes.more (h : Nodes w B A ns) (hB : B ≤ B') : Nodes w B' A ns := fun j hj => by
  obtain ⟨b, off, cs, e, hb, r⟩ := h j hj
  exact ⟨b, off, cs, e, by omega, r⟩
theorem Nodes.below (h : Nodes w B A ns) (hb : Below B w w') : Nodes w' B A ns := h.keep fun _ hp => hb.cell hp
theorem Nodes.grow (h : Nodes w w.heap.size A ns) (hb : Below w.heap.size w w') : Nodes w' w'.heap.size A ns := (h.below hb).more hb.size
theorem Nodes.drew (h : Nodes w B A ns) : Nodes w.drew B A ns := h
theorem Nodes.flow_at (h : Nodes w B A ns) {j : Nat} (hj : j < ns.length) : ∃ b off, A = some ⟨b, off, none⟩ ∧ b < B ∧ w.cell? ⟨b, off + j * 16 + 3, none⟩ = some (.int .i64 (flow ns j)) := by
  obtain ⟨b, off, cs, e, hb, hl, hr, h3, h4, h1⟩ := h j hj
  exact ⟨b, off, e, hb, hr 3 _ h3⟩
theorem Nodes.own_at (h : Nodes w B A ns) {j : Nat} (hj : j < ns.length) : ∃ b off, A = some ⟨b, off, none⟩ ∧ b < B ∧ w.cell? ⟨b, off + j * 16 + 4, none⟩ = some (.int .i64 (own ns j)) := by
  obtain ⟨b, off, cs, e, hb, hl, hr, h3, h4, h1⟩ := h j hj
  exact ⟨b, off, e, hb, hr 4 _ h4⟩
end

theorem place_any (A : Option Addr) (c : Nat) (ns : List N) (n : Nat) (hn : n = ns.length) (i : Int) (w : World) :
    Calls Try.prog 23 #[.slice A n c, .int .i64 i] w fun e w' => e = .returned (.bool (place ns i)) ∧ w = w' := by
  subst hn
  by_cases h1 : 0 ≤ i
  · have u1 : decide ((0 : Int) ≤ i) = true := by simpa using h1
    have hp : Hid (decide (i < (ns.length : Int)) = place ns i) := Lib.hid (by unfold place; rw [u1]; simp)
    go_enter Try.func23, Try.ntmps23
    go_wp2
    go_ret
    exact ⟨by rw [← hp.out]; rfl, rfl⟩
  · have u1 : decide ((0 : Int) ≤ i) = false := by simpa using h1
    have hp : Hid (place ns i = false) := Lib.hid (by unfold place; rw [u1]; simp)
    go_enter Try.func23, Try.ntmps23
    go_wp2
    go_ret
    exact ⟨by rw [hp.out]; rfl, rfl⟩

theorem infoNode : (Try.prog.info? 31).map (·.size) = some 16 := by kernel_rfl
set_option maxRecDepth 100000 in
set_option maxHeartbeats 4000000 in
theorem right_any (A : Option Addr) (c : Nat) (ns : List N) (n : Nat) (hn : n = ns.length) (hnc : n ≤ c) (hcm : c ≤ maxLen) (w : World) (hI : Nodes w w.heap.size A ns) :
    Calls Try.prog 12 #[.slice A n c] w fun e w' => e = .returned (.bool (right ns)) ∧ Below w.heap.size w w' := by
  unfold maxLen at hcm
  have HN := Lib.hid hn
  clear hn
  go_enter Try.func12, Try.ntmps12
  go_wp2
  go_loopw [7] (fun i wr => ∃ k : Nat, k ≤ n ∧ i = .int .i64 k ∧ RowKit.Hid ((List.range k).all (rightAt ns) = true) ∧ Below w.heap.size w wr) (fun i _ => n - (intOf i).toNat)
  case atStart => exact ⟨0, Nat.zero_le _, rfl, Lib.hid rfl, Below.refl _ _⟩
  case round =>
    obtain ⟨k, hk, rfl, hF, hB⟩ := hrel
    by_cases hlt : k < n
    · have hkr : k < ns.length := by have := HN.out; omega
      obtain ⟨b1, o1, cs, rfl, hb1, hcl, hra, h3, h4, h1⟩ := hI k hkr
      have hr : wr.rangeAt b1 (o1 + k * 16) cs := fun j v hv => (hB.cell (p := ⟨b1, _, none⟩) hb1).trans (hra j v hv)
      have HR := Lib.hid hr
      have hcz : cs.toArray.size = 16 := by simpa using hcl
      have HCZ := Lib.hid hcz
      have HCL := Lib.hid hcl
      clear hra hr hcz hcl
      have h1a : ∀ u ∈ cs.toArray.toList, u.oneCell' = true := fun u hu => h1 u (by simpa using hu)
      go_wp2_with (first | (refine wpList_load_mid rfl 31 (.tmp 10) rfl b1 (o1 + k * 16) rfl cs _ HR.out Try.underlying31 rfl (by rw [infoNode, HCL.out]) ?_) | (refine wpList_put_row rfl rfl 31 (.tmp 4) (.tmp 11) rfl wr.heap.size rfl 31 _ cs.toArray rfl (Blk.new_ _ _ _ rfl) (by rw [infoNode, HCZ.out]) (by rw [HCZ.out]; rfl) h1a ?_))
      have bx := (Blk.new_ wr 31 #[.string ⟨#[]⟩, .string ⟨#[]⟩, .int .u8 0, .int .i64 0, .int .i64 0, .int .i64 0, .slice none 0 0, .int .i64 0, .int .i64 0, .int .u8 0, .int .i64 0, .int .i64 0, .int .u8 0, .int .i64 0, .string ⟨#[]⟩, .slice none 0 0] rfl).row cs.toArray
      have hB1 := below_setRow (hB.alloc hB.size (.cells #[.string ⟨#[]⟩, .string ⟨#[]⟩, .int .u8 0, .int .i64 0, .int .i64 0, .int .i64 0, .slice none 0 0, .int .i64 0, .int .i64 0, .int .u8 0, .int .i64 0, .int .i64 0, .int .u8 0, .int .i64 0, .string ⟨#[]⟩, .slice none 0 0] 31)) hB.size cs.toArray
      generalize (wr.alloc (.cells #[.string ⟨#[]⟩, .string ⟨#[]⟩, .int .u8 0, .int .i64 0, .int .i64 0, .int .i64 0, .slice none 0 0, .int .i64 0, .int .i64 0, .int .u8 0, .int .i64 0, .int .i64 0, .int .u8 0, .int .i64 0, .string ⟨#[]⟩, .slice none 0 0] 31)).setRow wr.heap.size cs.toArray = W1 at *
      have hf : W1.cell? ⟨wr.heap.size, 3, none⟩ = some (.int .i64 (flow ns k)) := Blk.at_ bx 3 (by simpa using h3)
      have ho : W1.cell? ⟨wr.heap.size, 4, none⟩ = some (.int .i64 (own ns k)) := Blk.at_ bx 4 (by simpa using h4)
      have hbad : rightAt ns k = false → right ns = false := fun h => by
        rw [Bool.eq_false_iff]; intro hr
        have := List.all_eq_true.1 hr k (List.mem_range.2 hkr)
        rw [h] at this; cases this
      have hgood : rightAt ns k = true → (List.range (k + 1)).all (rightAt ns) = true := fun h => by
        rw [List.range_succ, List.all_append, hF.out]; simp [h]
      have HBAD := Lib.hid hbad
      have HGOOD := Lib.hid hgood
      have hdef : rightAt ns k = (decide (-1 ≤ own ns k) && decide (own ns k < k) && (decide (own ns k < 0) || decide (flow ns (own ns k).toNat = flow ns k))) := rfl
      have HDEF := Lib.hid hdef
      clear hbad hgood hdef hF bx hB h1 h1a h3 h4 HR
      by_cases c1 : own ns k < -1
      · have u1 : decide (own ns k < -1) = true := by simpa using c1
        have HX := Lib.hid (HBAD.out (by rw [HDEF.out, decide_eq_false (by omega)]; rfl))
        go_quiet (fail)
        go_wp2
        go_ret
        exact ⟨by rw [HX.out]; rfl, bdrewN hB1 _⟩
      have u1 : decide (own ns k < -1) = false := by simpa using c1
      by_cases c2 : (k : Int) ≤ own ns k
      · have u2 : decide ((k : Int) ≤ own ns k) = true := by simpa using c2
        have HX := Lib.hid (HBAD.out (by rw [HDEF.out, decide_eq_false (p := own ns k < k) (by omega)]; simp))
        go_quiet (fail)
        go_wp2
        go_ret
        exact ⟨by rw [HX.out]; rfl, bdrewN hB1 _⟩
      have u2 : decide ((k : Int) ≤ own ns k) = false := by simpa using c2
      by_cases c3 : own ns k < 0
      · have u3 : decide ((0 : Int) ≤ own ns k) = false := by simp; omega
        have HX := Lib.hid (HGOOD.out (by rw [HDEF.out, decide_eq_true (p := -1 ≤ own ns k) (by omega), decide_eq_true (p := own ns k < k) (by omega), decide_eq_true c3]; rfl))
        go_quiet (fail)
        go_wp2
        go_roundw
        case rel => exact ⟨k + 1, by omega, by go_num, HX, bdrewN hB1 _⟩
        case measure => simp [intOf]; omega
      obtain ⟨m, hm⟩ : ∃ m : Nat, own ns k = m := ⟨(own ns k).toNat, by omega⟩
      have hmk : m < k := by omega
      have hfm : W1.cell? ⟨b1, o1 + m * 16 + 3, none⟩ = some (.int .i64 (flow ns m)) := by
        obtain ⟨b2, o2, e2, hb2, hc2⟩ := hI.flow_at (j := m) (by omega)
        cases e2
        exact (hB1.cell (p := ⟨b1, _, none⟩) hb1).trans hc2
      rw [hm] at ho u1 u2
      have u3 : (0 : Int) ≤ (m : Int) := by omega
      have u4 : (m : Int) < (n : Int) := by omega
      have HM := Lib.hid hm
      clear hm c1 c2 c3
      have HFM : Hid (flow ns (own ns k).toNat = flow ns m) := Lib.hid (by rw [HM.out]; rfl)
      generalize flow ns m = fm at *
      have hrm : rightAt ns k = decide (fm = flow ns k) := by
        rw [HDEF.out, HM.out]
        rw [decide_eq_true (p := (-1 : Int) ≤ (m : Int)) (by omega), decide_eq_true (p := (m : Int) < (k : Int)) (by omega), decide_eq_false (p := (m : Int) < 0) (by omega)]
        rw [← HFM.out, HM.out]; rfl
      have HRM := Lib.hid hrm
      clear hrm HDEF HFM HM
      by_cases c4 : fm = flow ns k
      · have u5 : (fm != flow ns k) = false := by rw [c4]; simp
        have HX := Lib.hid (HGOOD.out (by rw [HRM.out, decide_eq_true c4]))
        clear c4
        go_quiet (fail)
        go_wp2
        go_roundw
        case rel => exact ⟨k + 1, by omega, by go_num, HX, bdrewN hB1 _⟩
        case measure => simp [intOf]; omega
      · have u5 : (fm != flow ns k) = true := by rw [bne_iff_ne]; exact c4
        have HX := Lib.hid (HBAD.out (by rw [HRM.out, decide_eq_false c4]))
        clear c4
        go_quiet (fail)
        go_wp2
        go_ret
        exact ⟨by rw [HX.out]; rfl, bdrewN hB1 _⟩
    · obtain rfl : k = n := by omega
      have HX : Hid (right ns = true) := Lib.hid (by unfold right; rw [← HN.out]; exact hF.out)
      clear hF
      go_wp2
      go_ret
      exact ⟨by rw [HX.out]; rfl, hB⟩
end Go.Proofs.Ytcdjhafpnfgnlaa.ScW
