/-
  Words and walks, one behind the other: ScopePlain, ScopeWalks1, ScopeWalks2, ScopeWalks3, ScopeWalks4, ScopeWalks5, ScopeWalks6, ScopeWalks7, ScopeWalks8, ScopeWalks9.
-/
import Derived.Calls
import Derived.Test.YtifmnoepifgaiaaProg
import Derived.Test.YtifmnoepifgaiaaOrdW
import Derived.Deep.MidRow
import Derived.BigQuiet
import Derived.Deep.QuietTactic
import Derived.RangeFuncNested
import Derived.RangeFuncBound
import Derived.RangeFuncCalls
import Derived.RangeFuncLeaves
import Derived.Shelf.Abstract
import Derived.Shelf.RegionOpen
import Derived.OwnWalkIn
import Derived.TacticsInMore
import Derived.LoopNIn
import Derived.LoopIn
import Derived.Laws.MakeOwn
namespace Go.Proofs.Ytifmnoepifgaiaa.Sc
set_option linter.unusedVariables false

/-- A node: its owner, its flow. -/
abbrev N := Int × Int
def own (ns : List N) (i : Nat) : Int := (ns.getD i (-1, 0)).1
def flow (ns : List N) (i : Nat) : Int := (ns.getD i (-1, 0)).2
def rightAt (ns : List N) (i : Nat) : Bool := decide (-1 ≤ own ns i) && decide (own ns i < i) && (decide (own ns i < 0) || decide (flow ns (own ns i).toNat = flow ns i))
def right (ns : List N) : Bool := (List.range ns.length).all (rightAt ns)
/-- Owners, the nearest one first. -/
def chain (ns : List N) (i : Nat) : List Nat :=
  if h : 0 ≤ own ns i ∧ (own ns i).toNat < i then (own ns i).toNat :: chain ns (own ns i).toNat else []
termination_by i
decreasing_by exact h.2
def place (ns : List N) (i : Int) : Bool := decide (0 ≤ i) && decide (i < ns.length)
def chainI (ns : List N) (i : Int) : List Nat := if place ns i then chain ns i.toNat else []
def deep (ns : List N) (i : Int) : Nat := if place ns i then (chain ns i.toNat).length + 1 else 0
def over (ns : List N) (a b : Int) : Bool := (chainI ns b).any fun o => decide ((o : Int) = a)
def below (ns : List N) (i : Int) : List Nat := if place ns i then (List.range ns.length).filter fun k => over ns i k else []
def owned (ns : List N) (f o : Int) : List Nat := (List.range ns.length).filter fun k => decide (flow ns k = f) && decide (own ns k = o)

theorem right_at {ns : List N} (h : right ns = true) {i : Nat} (hi : i < ns.length) : -1 ≤ own ns i ∧ own ns i < i ∧ (0 ≤ own ns i → flow ns (own ns i).toNat = flow ns i) := by
  have := List.all_eq_true.1 h i (List.mem_range.2 hi)
  unfold rightAt at this
  simp only [Bool.and_eq_true, Bool.or_eq_true, decide_eq_true_eq] at this
  refine ⟨this.1.1, this.1.2, fun h0 => ?_⟩
  rcases this.2 with h | h
  · omega
  · exact h
theorem chain_none {ns : List N} {i : Nat} (h : own ns i < 0) : chain ns i = [] := by
  rw [chain, dif_neg (by omega)]
theorem chain_some {ns : List N} {i : Nat} (h : 0 ≤ own ns i) (h2 : own ns i < i) : chain ns i = (own ns i).toNat :: chain ns (own ns i).toNat := by
  rw [chain, dif_pos ⟨h, by omega⟩]
theorem chain_lt (ns : List N) : ∀ (i : Nat), ∀ o ∈ chain ns i, o < i := by
  intro i
  induction i using Nat.strongRecOn with
  | _ i ih =>
    intro o ho
    rw [chain] at ho
    split at ho
    · rename_i h
      rcases List.mem_cons.1 ho with rfl | ho
      · exact h.2
      · exact Nat.lt_trans (ih _ h.2 o ho) h.2
    · cases ho
theorem chain_length (ns : List N) : ∀ (i : Nat), (chain ns i).length ≤ i := by
  intro i
  induction i using Nat.strongRecOn with
  | _ i ih =>
    rw [chain]
    split
    · rename_i h
      have := ih _ h.2
      rw [List.length_cons]; omega
    · exact Nat.zero_le _
/-- Who is in a chain: the owner, or, if that is higher, who is in its chain. -/
theorem chain_mem {ns : List N} {k : Nat} (h1 : -1 ≤ own ns k) (h2 : own ns k < k) (i : Nat) : i ∈ chain ns k ↔ own ns k = i ∨ ((i : Int) < own ns k ∧ i ∈ chain ns (own ns k).toNat) := by
  rcases Int.lt_or_le (own ns k) 0 with h | h
  · rw [chain_none h]
    constructor
    · intro hm; cases hm
    · rintro (h3 | ⟨h3, _⟩) <;> omega
  · rw [chain_some h h2, List.mem_cons]
    constructor
    · rintro (rfl | hm)
      · left; omega
      · have := chain_lt ns _ _ hm
        right; exact ⟨by omega, hm⟩
    · rintro (h3 | ⟨h3, hm⟩)
      · left; omega
      · right; exact hm
theorem over_place {ns : List N} {a b : Int} (hb : place ns b = true) : over ns a b = (chain ns b.toNat).any fun o => decide ((o : Int) = a) := by
  unfold over chainI; rw [if_pos hb]
theorem place_nat {ns : List N} {i : Nat} (h : i < ns.length) : place ns (i : Int) = true := by unfold place; simp [h]
theorem over_nat {ns : List N} {i k : Nat} (hk : k < ns.length) : over ns (i : Int) (k : Int) = decide (i ∈ chain ns k) := by
  rw [over_place (place_nat hk), Bool.eq_iff_iff, List.any_eq_true]
  simp only [Int.toNat_natCast, decide_eq_true_eq]
  constructor
  · rintro ⟨o, ho, he⟩
    have : o = i := by omega
    subst this; exact ho
  · intro h; exact ⟨i, h, rfl⟩
end Go.Proofs.Ytifmnoepifgaiaa.Sc

namespace Go.Proofs.Ytifmnoepifgaiaa.ScW
set_option linter.unusedVariables false
open Go.RowKit Go.Proofs Go.Proofs.Ytifmnoepifgaiaa Go.Proofs.Ytifmnoepifgaiaa.Wd
open Go.Proofs.Ytifmnoepifgaiaa.Sc (N own flow rightAt right chain place chainI deep over below owned)

/-- A slice of nodes: from its address they lie one behind the other, below block B. -/
def Nodes (w : World) (B : Nat) (A : Option Addr) (ns : List N) : Prop :=
  ∀ j, j < ns.length → ∃ b off cs, A = some ⟨b, off, none⟩ ∧ b < B ∧ cs.length = 16 ∧ w.rangeAt b (off + j * 16) cs ∧ cs[3]? = some (.int .i64 (flow ns j)) ∧ cs[4]? = some (.int .i64 (own ns j)) ∧ ∀ v ∈ cs, v.oneCell' = true
section
variable {w w' : World} {B B' : Nat} {A : Option Addr} {ns : List N}
theorem Nodes.nil : Nodes w B A [] := fun _ h => absurd h (Nat.not_lt_zero _)
theorem Nodes.keep (h : Nodes w B A ns) (hk : ∀ p : Addr, p.block < B → w'.cell? p = w.cell? p) : Nodes w' B A ns := fun j hj => by
  obtain ⟨b, off, cs, e, hb, hl, hr, h3, h4, h1⟩ := h j hj
  exact ⟨b, off, cs, e, hb, hl, fun i v hv => (hk ⟨b, _, none⟩ hb).trans (hr i v hv), h3, h4, h1⟩
theorem Nodes.more (h : Nodes w B A ns) (hB : B ≤ B') : Nodes w B' A ns := fun j hj => by
  obtain ⟨b, off, cs, e, hb, r⟩ := h j hj
  exact ⟨b, off, cs, e, by omega, r⟩
theorem Nodes.below (h : Nodes w B A ns) (hb : Below B w w') : Nodes w' B A ns := h.keep fun _ hp => hb.cell hp
theorem Nodes.grow (h : Nodes w w.heap.size A ns) (hb : Below w.heap.size w w') : Nodes w' w'.heap.size A ns := (h.below hb).more hb.size
theorem Nodes.drew (h : Nodes w B A ns) : Nodes w.drew B A ns := h
theorem Nodes.flow_at (h : Nodes w B A ns) {j : Nat} (hj : j < ns.length) : ∃ b off, A = some ⟨b, off, none⟩ ∧ b < B ∧ w.cell? ⟨b, off + j * 16 + 3, none⟩ = some (.int .i64 (flow ns j)) := by
  obtain ⟨b, off, cs, e, hb, hl, hr, h3, h4, h1⟩ := h j hj
  exact ⟨b, off, e, hb, hr 3 _ h3⟩
theorem Nodes.own_at (h : Nodes w B A ns) {j : Nat} (hj : j < ns.length) : ∃ b off, A = some ⟨b, off, none⟩ ∧ b < B ∧ w.cell? ⟨b, off + j * 16 + 4, none⟩ = some (.int .i64 (own ns j)) := by
  obtain ⟨b, off, cs, e, hb, hl, hr, h3, h4, h1⟩ := h j hj
  exact ⟨b, off, e, hb, hr 4 _ h4⟩
end

theorem place_any (A : Option Addr) (c : Nat) (ns : List N) (n : Nat) (hn : n = ns.length) (i : Int) (w : World) :
    Calls Try.prog 33 #[.slice A n c, .int .i64 i] w fun e w' => e = .returned (.bool (place ns i)) ∧ w = w' := by
  subst hn
  by_cases h1 : 0 ≤ i
  · have u1 : decide ((0 : Int) ≤ i) = true := by simpa using h1
    have hp : Hid (decide (i < (ns.length : Int)) = place ns i) := Lib.hid (by unfold place; rw [u1]; simp)
    go_enter Try.func33, Try.ntmps33
    go_wp2
    go_ret
    exact ⟨by rw [← hp.out]; rfl, rfl⟩
  · have u1 : decide ((0 : Int) ≤ i) = false := by simpa using h1
    have hp : Hid (place ns i = false) := Lib.hid (by unfold place; rw [u1]; simp)
    go_enter Try.func33, Try.ntmps33
    go_wp2
    go_ret
    exact ⟨by rw [hp.out]; rfl, rfl⟩

theorem infoNode : (Try.prog.info? 35).map (·.size) = some 16 := by kernel_rfl
end Go.Proofs.Ytifmnoepifgaiaa.ScW

namespace Go.Proofs.Ytifmnoepifgaiaa.ScW
set_option linter.unusedVariables false
open Go.RowKit Go.Proofs Go.Proofs.Ytifmnoepifgaiaa Go.Proofs.Ytifmnoepifgaiaa.Wd
open Go.Proofs.Ytifmnoepifgaiaa.Sc (N own flow rightAt right chain place chainI deep over below owned)

theorem itake_succ {l m : List Int} {k : Nat} (hk : k < l.length) (hm : k < m.length) (h : l.take k = m.take k) : l.take (k + 1) = m.take (k + 1) ↔ l[k] = m[k] := by
  rw [List.take_succ_eq_append_getElem hk, List.take_succ_eq_append_getElem hm, h, List.append_cancel_left_eq]
  simp
theorem ine_of_get {l m : List Int} {k : Nat} (hk : k < l.length) (hm : k < m.length) (h : l[k] ≠ m[k]) : l ≠ m := by
  rintro rfl; exact h rfl
end Go.Proofs.Ytifmnoepifgaiaa.ScW

namespace Go.Proofs.Ytifmnoepifgaiaa.ScW
set_option linter.unusedVariables false
open Go.RowKit Go.Proofs Go.Proofs.Ytifmnoepifgaiaa Go.Proofs.Ytifmnoepifgaiaa.Wd
open Go.Proofs.Ytifmnoepifgaiaa.Sc (N own flow rightAt right chain place chainI deep over below owned)

/-- A row of numbers of the call's own. -/
def IntsOut (w : World) (l : List Int) (e : Ending) (w' : World) : Prop :=
  ∃ A c, e = .returned (.slice A l.length c) ∧ Below w.heap.size w w' ∧ w'.ownsRow w.heap.size 3 1 (.slice A l.length c) l.length (iv l)
theorem infoInt : (Try.prog.info? 3).map (fun i => (i.zero, i.size, i.bytes)) = some (some (.int .i64 0), 1, 8) := by kernel_rfl
def toI (l : List Nat) : List Int := l.map fun (n : Nat) => (n : Int)
theorem toI_length (l : List Nat) : (toI l).length = l.length := by simp [toI]
theorem toI_append (a b : List Nat) : toI (a ++ b) = toI a ++ toI b := List.map_append
/-- Those of the first k that p holds. -/
def fil (p : Nat → Bool) (k : Nat) : List Nat := (List.range k).filter p
theorem fil_yes {p : Nat → Bool} {k : Nat} (h : p k = true) : fil p (k + 1) = fil p k ++ [k] := by unfold fil; rw [List.range_succ, List.filter_append]; simp [h]
theorem fil_no {p : Nat → Bool} {k : Nat} (h : p k = false) : fil p (k + 1) = fil p k := by unfold fil; rw [List.range_succ, List.filter_append]; simp [h]
theorem fil_le (p : Nat → Bool) (k : Nat) : (fil p k).length ≤ k := by
  have := List.length_filter_le p (List.range k)
  rw [List.length_range] at this; exact this
theorem owned_fil (ns : List N) (f o : Int) : owned ns f o = fil (fun k => decide (flow ns k = f) && decide (own ns k = o)) ns.length := rfl

set_option maxRecDepth 100000 in
set_option maxHeartbeats 4000000 in
theorem own_any (A : Option Addr) (c : Nat) (ns : List N) (n : Nat) (hn : n = ns.length) (hnc : n ≤ c) (hcm : c ≤ maxLen) (hnb : n ≤ 1000000000) (f o : Int) (w : World) (hI : Nodes w w.heap.size A ns) :
    Calls Try.prog 20 #[.slice A n c, .int .i64 f, .int .i64 o] w (IntsOut w (toI (owned ns f o))) := by
  unfold maxLen at hcm
  have HN := Lib.hid hn
  clear hn
  obtain ⟨i0, hi0, hz0, hz1, hz2⟩ := info_parts infoInt
  rw [owned_fil]
  have HFN := Lib.hid (show ns.length = n from HN.out.symm)
  go_enter Try.func20, Try.ntmps20
  go_wp2
  go_loopw [7, 12] (fun v i wr => ∃ k : Nat, k ≤ n ∧ i = .int .i64 k ∧ wr.ownsRow w.heap.size 3 1 v (fil (fun k => decide (flow ns k = f) && decide (own ns k = o)) k).length (iv (toI (fil (fun k => decide (flow ns k = f) && decide (own ns k = o)) k))) ∧ Below w.heap.size w wr) (fun _ i _ => n - (intOf i).toNat)
  case atStart => exact ⟨0, Nat.zero_le _, rfl, own_nil _ _ _, Below.refl _ _⟩
  case round =>
    obtain ⟨k, hk, rfl, hown, hB⟩ := hrel
    by_cases hlt : k < n
    · have hkr : k < ns.length := by have := HN.out; omega
      obtain ⟨b1, o1, cs, rfl, hb1, hcl, hra, h3, h4, h1⟩ := hI k hkr
      have hr : wr.rangeAt b1 (o1 + k * 16) cs := fun j v hv => (hB.cell (p := ⟨b1, _, none⟩) hb1).trans (hra j v hv)
      have HR := Lib.hid hr
      have hcz : cs.toArray.size = 16 := by simpa using hcl
      have HCZ := Lib.hid hcz
      have HCL := Lib.hid hcl
      clear hra hr hcz hcl
      have h1a : ∀ u ∈ cs.toArray.toList, u.oneCell' = true := fun u hu => h1 u (by simpa using hu)
      have hbz := below_setRow ((Below.refl _ wr).alloc (Nat.le_refl _) (.cells #[.string ⟨#[]⟩, .string ⟨#[]⟩, .int .u8 0, .int .i64 0, .int .i64 0, .int .i64 0, .slice none 0 0, .int .i64 0, .int .i64 0, .int .u8 0, .int .i64 0, .int .i64 0, .int .u8 0, .int .i64 0, .string ⟨#[]⟩, .slice none 0 0] 35)) (Nat.le_refl _) cs.toArray
      have bx := (Blk.new_ wr 35 #[.string ⟨#[]⟩, .string ⟨#[]⟩, .int .u8 0, .int .i64 0, .int .i64 0, .int .i64 0, .slice none 0 0, .int .i64 0, .int .i64 0, .int .u8 0, .int .i64 0, .int .i64 0, .int .u8 0, .int .i64 0, .string ⟨#[]⟩, .slice none 0 0] rfl).row cs.toArray
      have hB1 := hB.trans (hbz.mono hB.size)
      have ho1 := own_belowW hown hbz
      have hf := Blk.at_ (v := .int .i64 (flow ns k)) bx 3 (by simpa using h3)
      have ho := Blk.at_ (v := .int .i64 (own ns k)) bx 4 (by simpa using h4)
      have hbs := hB.size
      have hbound := fil_le (fun k => decide (flow ns k = f) && decide (own ns k = o)) k
      have hyes : flow ns k = f → own ns k = o → fil (fun k => decide (flow ns k = f) && decide (own ns k = o)) (k + 1) = fil (fun k => decide (flow ns k = f) && decide (own ns k = o)) k ++ [k] := fun h1 h2 => fil_yes (by simp [h1, h2])
      have hno : ¬ (flow ns k = f ∧ own ns k = o) → fil (fun k => decide (flow ns k = f) && decide (own ns k = o)) (k + 1) = fil (fun k => decide (flow ns k = f) && decide (own ns k = o)) k := fun h1 => fil_no (by simp only [Bool.and_eq_false_iff, decide_eq_false_iff_not]; exact Decidable.not_and_iff_or_not.1 h1)
      have HYES := Lib.hid hyes
      have HNO := Lib.hid hno
      clear hyes hno hbz hB hown h3 h4 bx
      generalize hq : fil (fun k => decide (flow ns k = f) && decide (own ns k = o)) k = F at *
      have HQ := Lib.hid hq
      clear hq
      by_cases c1 : flow ns k = f
      · by_cases c2 : own ns k = o
        · have u1 : (flow ns k == f) = true := by simpa using c1
          have u2 : (own ns k == o) = true := by simpa using c2
          have HX := Lib.hid (HYES.out c1 c2)
          clear c1 c2 HYES HNO
          have hnew := heap_alloc_new ((wr.alloc (.cells #[.string ⟨#[]⟩, .string ⟨#[]⟩, .int .u8 0, .int .i64 0, .int .i64 0, .int .i64 0, .slice none 0 0, .int .i64 0, .int .i64 0, .int .u8 0, .int .i64 0, .int .i64 0, .int .u8 0, .int .i64 0, .string ⟨#[]⟩, .slice none 0 0] 35)).setRow wr.heap.size cs.toArray) (.cells #[.int .i64 (k : Int)] 3)
          simp only [size_setRow, World.size_alloc] at hnew
          go_wp2_with (first | (refine wpList_load_mid rfl 35 (.tmp 15) rfl b1 (o1 + k * 16) rfl cs _ HR.out Try.underlying35 rfl (by rw [infoNode, HCL.out]) ?_) | (refine wpList_put_row rfl rfl 35 (.tmp 9) (.tmp 16) rfl wr.heap.size rfl 35 _ cs.toArray rfl (Blk.new_ _ _ _ rfl) (by rw [infoNode, HCZ.out]) (by rw [HCZ.out]; rfl) h1a ?_) | (at_builtin; refine wpList_append_lies _ rfl (.tmp 27) (.tmp 29) _ rfl w.heap.size 3 i0 _ 1 8 Try.underlying22 hi0 hz0 hz1 hz2 rfl (by omega) _ F.length _ rfl (ho1.alloc _) ⟨wr.heap.size + 1, 0, none⟩ 1 1 [.int .i64 (k : Int)] rfl rfl (World.news_of_block hnew) (by intro u hu; simp at hu; subst hu; rfl) (by omega) (by unfold maxLen; omega) (by omega) (by simp; omega) (wr.heap.size + 1 + 1) (by simp) ?_))
          intro g cap w2 hown2 hgrow _ _
          have hB2 := (hB1.alloc hB1.size (.cells #[.int .i64 (k : Int)] 3)).grown hgrow (by simp; omega) (fun j hj => (own_row (ho1.alloc (.cells #[.int .i64 (k : Int)] 3)) hj).1)
          have R1 : Hid (World.ownsRow w2 w.heap.size 3 1 (.slice (some ⟨g, 0, none⟩) (F.length + 1) cap) (fil (fun k => decide (flow ns k = f) && decide (own ns k = o)) (k + 1)).length (iv (toI (fil (fun k => decide (flow ns k = f) && decide (own ns k = o)) (k + 1))))) := Lib.hid (by
            rw [HX.out, List.length_append, toI_append, iv_append]; exact hown2)
          clear hgrow hown2 ho1 hnew hB1 hf ho
          go_wp2
          go_roundw
          case rel => exact ⟨k + 1, by omega, by go_num, R1.out, hB2⟩
          case measure => simp [intOf]; omega
        · have u1 : (flow ns k == f) = true := by simpa using c1
          have u2 : (own ns k == o) = false := by simpa using c2
          have HX := Lib.hid (HNO.out (fun h => c2 h.2))
          have R1 : Hid (World.ownsRow ((wr.alloc (.cells #[.string ⟨#[]⟩, .string ⟨#[]⟩, .int .u8 0, .int .i64 0, .int .i64 0, .int .i64 0, .slice none 0 0, .int .i64 0, .int .i64 0, .int .u8 0, .int .i64 0, .int .i64 0, .int .u8 0, .int .i64 0, .string ⟨#[]⟩, .slice none 0 0] 35)).setRow wr.heap.size cs.toArray) w.heap.size 3 1 u7 (fil (fun k => decide (flow ns k = f) && decide (own ns k = o)) (k + 1)).length (iv (toI (fil (fun k => decide (flow ns k = f) && decide (own ns k = o)) (k + 1))))) := Lib.hid (by rw [HX.out]; exact ho1)
          clear c1 c2 HYES HNO ho1
          go_wp2_with (first | (refine wpList_load_mid rfl 35 (.tmp 15) rfl b1 (o1 + k * 16) rfl cs _ HR.out Try.underlying35 rfl (by rw [infoNode, HCL.out]) ?_) | (refine wpList_put_row rfl rfl 35 (.tmp 9) (.tmp 16) rfl wr.heap.size rfl 35 _ cs.toArray rfl (Blk.new_ _ _ _ rfl) (by rw [infoNode, HCZ.out]) (by rw [HCZ.out]; rfl) h1a ?_))
          go_roundw
          case rel => exact ⟨k + 1, by omega, by go_num, R1.out, hB1⟩
          case measure => simp [intOf]; omega
      · have u1 : (flow ns k == f) = false := by simpa using c1
        have HX := Lib.hid (HNO.out (fun h => c1 h.1))
        have R1 : Hid (World.ownsRow ((wr.alloc (.cells #[.string ⟨#[]⟩, .string ⟨#[]⟩, .int .u8 0, .int .i64 0, .int .i64 0, .int .i64 0, .slice none 0 0, .int .i64 0, .int .i64 0, .int .u8 0, .int .i64 0, .int .i64 0, .int .u8 0, .int .i64 0, .string ⟨#[]⟩, .slice none 0 0] 35)).setRow wr.heap.size cs.toArray) w.heap.size 3 1 u7 (fil (fun k => decide (flow ns k = f) && decide (own ns k = o)) (k + 1)).length (iv (toI (fil (fun k => decide (flow ns k = f) && decide (own ns k = o)) (k + 1))))) := Lib.hid (by rw [HX.out]; exact ho1)
        clear c1 HYES HNO ho1
        go_wp2_with (first | (refine wpList_load_mid rfl 35 (.tmp 15) rfl b1 (o1 + k * 16) rfl cs _ HR.out Try.underlying35 rfl (by rw [infoNode, HCL.out]) ?_) | (refine wpList_put_row rfl rfl 35 (.tmp 9) (.tmp 16) rfl wr.heap.size rfl 35 _ cs.toArray rfl (Blk.new_ _ _ _ rfl) (by rw [infoNode, HCZ.out]) (by rw [HCZ.out]; rfl) h1a ?_))
        go_roundw
        case rel => exact ⟨k + 1, by omega, by go_num, R1.out, hB1⟩
        case measure => simp [intOf]; omega
    · obtain rfl : k = n := by omega
      obtain ⟨A3, c3, rfl⟩ := own_form hown
      go_wp2
      go_ret
      rw [HFN.out]
      exact ⟨A3, c3, by rw [toI_length]; rfl, hB, by rw [toI_length]; exact hown⟩

end Go.Proofs.Ytifmnoepifgaiaa.ScW

namespace Go.Proofs.Ytifmnoepifgaiaa.ScW
set_option linter.unusedVariables false
open Go.RowKit Go.Shelf Go.Proofs Go.Proofs.Ytifmnoepifgaiaa Go.Proofs.Ytifmnoepifgaiaa.Wd
open Go.Proofs.Ytifmnoepifgaiaa.Sc (N own flow rightAt right chain place chainI deep over below owned)
attribute [local go_sem] Oper.semAt_some

/-- What is still to come from an owner on. -/
def rest (ns : List N) (o : Int) : List Nat := if 0 ≤ o then o.toNat :: chain ns o.toNat else []
theorem chain_rest {ns : List N} (h : right ns = true) {j : Nat} (hj : j < ns.length) : chain ns j = rest ns (own ns j) := by
  obtain ⟨h1, h2, _⟩ := Sc.right_at h hj
  unfold rest
  by_cases h0 : 0 ≤ own ns j
  · rw [if_pos h0, Sc.chain_some h0 h2]
  · rw [if_neg h0, Sc.chain_none (by omega)]
theorem rest_nat (ns : List N) (j : Nat) : rest ns (j : Int) = j :: chain ns j := by unfold rest; rw [if_pos (by omega)]; rfl
theorem rest_neg {ns : List N} {o : Int} (h : o < 0) : rest ns o = [] := by unfold rest; rw [if_neg (by omega)]

set_option maxRecDepth 100000 in
set_option maxHeartbeats 2000000 in
theorem up1_in (l B1 B2 n₀ : Nat) (A : Option Addr) (c : Nat) (ns : List N) (n : Nat) (hn : n = ns.length) (hnc : n ≤ c) (hcm : n ≤ 1000000000000000) (hr : right ns = true) (i : Int) (J : List Nat → World → Prop) (Jx : List Nat → Nat → World → Prop)
    (hY : ∀ pre (j : Nat) (W : World), J pre W → (∃ r, chainI ns i = pre ++ j :: r) → YieldAt Fence.wide 8 Try.prog l #[.int .i64 j] W fun en W' =>
      (en = .returned (.bool true) ∧ J (pre ++ [j]) W' ∧ Below n₀ W W' ∧ W'.heap[B1]? = W.heap[B1]? ∧ W'.heap[B2]? = W.heap[B2]?) ∨ (en = .returned (.bool false) ∧ Jx pre j W'))
    (W : World) (hn₀ : n₀ ≤ W.heap.size) (hB1 : Blk W B1 23 #[.slice A n c]) (hB2 : Blk W B2 3 #[.int .i64 i]) (hI : Nodes W n₀ A ns) (h0 : J [] W) :
    CallsIn Fence.wide 9 Try.prog 39 #[.func (.yield l) #[] #[], .pointer (some ⟨B1, 0, none⟩), .pointer (some ⟨B2, 0, none⟩)] W fun e W' => (∃ v, e = .returned v) ∧
      (J (chainI ns i) W' ∨ ∃ pre j r, chainI ns i = pre ++ j :: r ∧ Jx pre j W') := by
  have HN := Lib.hid hn
  have HR := Lib.hid hr
  clear hn hr
  have b1 : W.cell? ⟨B1, 0, none⟩ = some (.slice A n c) := Blk.at_ hB1 0 rfl
  have b2 : W.cell? ⟨B2, 0, none⟩ = some (.int .i64 i) := Blk.at_ hB2 0 rfl
  refine callsIn_of_wp Try.func39 rfl trivial ?_ rfl
  simp only [Try.ntmps39, List.size_toArray, List.length_cons, List.length_nil, Nat.reduceAdd, Nat.reduceSub, Array.replicate_succ, Array.replicate_zero, List.push_toArray, List.append_toArray, List.nil_append, List.cons_append]
  gi_wp2_with fail
  refine ⟨trivial, ?_⟩
  refine (callsIn_wide.2 (place_any A c ns n HN.out i W)).mono ?_
  rintro e w1 ⟨rfl, rfl⟩
  cases hp : place ns i
  · have hc : Hid (chainI ns i = []) := Lib.hid (by unfold chainI; rw [hp]; rfl)
    clear hp
    gi_wp2
    refine bodyPost_ret (results_none rfl _ _ _) rfl ?_
    exact ⟨⟨_, rfl⟩, .inl (by rw [hc.out]; exact h0)⟩
  · obtain ⟨m, rfl⟩ : ∃ m : Nat, i = m := ⟨i.toNat, by unfold place at hp; simp at hp; omega⟩
    have hml : m < ns.length := by unfold place at hp; simp at hp; exact hp
    have hmn : m < n := by have := HN.out; omega
    obtain ⟨bb, off, rfl, hbb, hco⟩ := hI.own_at hml
    have hcI : Hid (chainI ns (m : Int) = rest ns (own ns m)) := Lib.hid (by unfold chainI; rw [hp]; exact chain_rest HR.out hml)
    have hob := Sc.right_at HR.out hml
    obtain ⟨o0, ho0⟩ : ∃ o0, o0 = own ns m := ⟨_, rfl⟩
    rw [← ho0] at hco hob
    have hcI2 : Hid (chainI ns (m : Int) = [] ++ rest ns o0) := Lib.hid (by rw [hcI.out, ho0]; rfl)
    have hb1 := hob.1
    have hb2 := hob.2.1
    clear hob ho0 hp hcI
    gi_wp2
    gi_loopw [4] (fun o wr => ∃ (x : Int) (pre : List Nat), -1 ≤ x ∧ x < n ∧ o = .int .i64 x ∧ RowKit.Hid (chainI ns (m : Int) = pre ++ rest ns x) ∧ J pre wr ∧ Below n₀ W wr ∧ Blk wr B1 23 #[.slice (some ⟨bb, off, none⟩) n c])
      (fun o _ => (intOf o + 1).toNat)
    case atStart => exact ⟨o0, [], hb1, by omega, rfl, hcI2, h0, Below.refl _ _, hB1⟩
    case round =>
      clear hco hb1 hb2 hcI2 b1 b2 hB1 h0
      obtain ⟨x, pre, hx1, hx2, rfl, hC, hJ, hB, hbx⟩ := hrel
      by_cases hx : x < 0
      · have u1 : ¬ (0 : Int) ≤ x := by omega
        have hC2 : Hid (chainI ns (m : Int) = pre) := Lib.hid (by rw [hC.out, rest_neg hx, List.append_nil])
        gi_wp2
        go_end0
        exact ⟨⟨_, rfl⟩, .inl (by rw [hC2.out]; exact hJ)⟩
      · obtain ⟨j, rfl⟩ : ∃ j : Nat, x = j := ⟨x.toNat, by omega⟩
        have hjn : j < n := by omega
        have hjl : j < ns.length := by have := HN.out; omega
        have u1 : (0 : Int) ≤ (j : Int) := by omega
        obtain ⟨_, _, e2, _, hco⟩ := hI.own_at hjl
        cases e2
        have hob := Sc.right_at HR.out hjl
        have hC2 : Hid (chainI ns (m : Int) = pre ++ j :: chain ns j) := Lib.hid (by rw [hC.out, rest_nat])
        have hC3 : Hid (chainI ns (m : Int) = (pre ++ [j]) ++ rest ns (own ns j)) := Lib.hid (by rw [hC2.out, chain_rest HR.out hjl]; simp)
        obtain ⟨o1, ho1⟩ : ∃ o1, o1 = own ns j := ⟨_, rfl⟩
        rw [← ho1] at hco hob hC3
        have hb1 := hob.1
        have hb2 := hob.2.1
        clear hob ho1 hC
        obtain ⟨fn, tmps, assign, body, hy, hRr⟩ := hY pre j wr hJ ⟨_, hC2.out⟩
        gi_wp2
        refine hRr.mono ?_
        rintro e W3 (⟨rfl, hJ3, hk3, hk4, hk5⟩ | ⟨rfl, hx3⟩)
        · have hB3 := hB.trans hk3
          have hbx3 : Blk W3 B1 23 #[.slice (some ⟨bb, off, none⟩) n c] := hk4.trans hbx
          have c1 : W3.cell? ⟨B1, 0, none⟩ = some (.slice (some ⟨bb, off, none⟩) n c) := Blk.at_ hbx3 0 rfl
          have c2 := (hB3.cell (p := ⟨bb, _, none⟩) hbb).trans hco
          have i1 : (j : Int) < (n : Int) := by omega
          gi_wp2
          go_roundw
          case rel => exact ⟨o1, _, hb1, by omega, rfl, hC3, hJ3, hB3, hbx3⟩
          case measure => simp [intOf]; omega
        · gi_wp2
          refine bodyPost_ret (results_none rfl _ _ _) rfl ?_
          exact ⟨⟨_, rfl⟩, .inr ⟨_, _, _, hC2.out, hx3⟩⟩
end Go.Proofs.Ytifmnoepifgaiaa.ScW

namespace Go.Proofs.Ytifmnoepifgaiaa.ScW
set_option linter.unusedVariables false
open Go.RowKit Go.Shelf Go.Proofs Go.Proofs.Ytifmnoepifgaiaa Go.Proofs.Ytifmnoepifgaiaa.Wd
open Go.Proofs.Ytifmnoepifgaiaa.Sc (N own flow rightAt right chain place chainI deep over below owned)
attribute [local go_sem] Oper.semAt_some

theorem Turns.blk {B : Nat} {W W' : World} (h : Turns B W W') {g : Nat} {t : TypeId} {cs : Array Value} (hg : Blk W g t cs) : Blk W' g t cs := h.cells g _ hg rfl
theorem own_turns {B B' : Nat} {W W' : World} (h : Turns B' W W') {e : TypeId} {size n : Nat} {v : Value} {xs : List Value} (ho : W.ownsRow B e size v n xs) : W'.ownsRow B e size v n xs :=
  own_keep ho fun g hg => by obtain ⟨_, cs, hc⟩ := own_row ho hg; exact (h.cells g _ hc rfl).trans hc.symm

/-- The sequence's box between two rounds. -/
def SeqHeld (w : World) (pre : List Nat) (W : World) : Prop :=
  Below w.heap.size w W ∧ ∃ v, Blk W w.heap.size 22 #[v] ∧ W.ownsRow w.heap.size 3 1 v pre.length (iv (toI pre))
theorem SeqHeld.turns {w W W' : World} {pre : List Nat} (h : SeqHeld w pre W) {B : Nat} (hB : w.heap.size ≤ B) (ht : Turns B W W') : SeqHeld w pre W' := by
  obtain ⟨h1, v, h2, h3⟩ := h
  exact ⟨h1.trans (ht.below.mono hB), v, Turns.blk ht h2, own_turns ht h3⟩

set_option maxRecDepth 100000 in
set_option maxHeartbeats 4000000 in
theorem appendseq_any (B1 B2 : Nat) (A : Option Addr) (c : Nat) (ns : List N) (n : Nat) (hn : n = ns.length) (hnc : n ≤ c) (hcm : n ≤ 1000000000000) (hr : right ns = true) (i : Int) (w : World)
    (hB1 : Blk w B1 23 #[.slice A n c]) (hB2 : Blk w B2 3 #[.int .i64 i]) (hI : Nodes w w.heap.size A ns) :
    Calls Try.prog 38 #[.slice none 0 0, .func (.func 39) #[] #[.pointer (some ⟨B1, 0, none⟩), .pointer (some ⟨B2, 0, none⟩)]] w (IntsOut w (toI (chainI ns i))) := by
  have hlen : (chainI ns i).length ≤ n := by
    unfold chainI
    cases hp : place ns i
    · exact Nat.zero_le _
    · rw [if_pos rfl]
      have := Sc.chain_length ns i.toNat
      unfold place at hp; simp at hp; omega
  have HLEN := Lib.hid hlen
  have b1lt := hB1.lt
  have b2lt := hB2.lt
  clear hlen
  refine (callsIn_wide (n := 10)).1 ?_
  refine callsIn_of_wp_marks Try.func38 rfl trivial ?_ rfl
  simp only [Try.ntmps38, List.size_toArray, List.length_cons, List.length_nil, Nat.reduceAdd, Nat.reduceSub, Array.replicate_succ, Array.replicate_zero, List.push_toArray, List.append_toArray, List.nil_append, List.cons_append]
  gi_wp2_with fail
  have z0 := Blk.new_ w 22 #[.slice none 0 0] rfl
  have hB0 : Below w.heap.size w (w.alloc (.cells #[.slice none 0 0] 22)) := (Below.refl _ w).alloc (Nat.le_refl _) _
  have h0 : SeqHeld w [] (w.alloc (.cells #[.slice none 0 0] 22)) := ⟨hB0, _, z0, own_nil _ _ _⟩
  have hsz : (w.alloc (.cells #[.slice none 0 0] 22)).heap.size = w.heap.size + 1 := by simp
  generalize w.alloc (.cells #[.slice none 0 0] 22) = w6 at *
  refine range_ev (gf := 39) (lb := #[.pointer (some ⟨B1, 0, none⟩), .pointer (some ⟨B2, 0, none⟩)]) rfl (enters_of Try.func39 (by kernel_rfl) rfl)
    (fun x : Nat => #[.int .i64 x]) (fun _ => rfl) (fun s x => s ++ [x]) [] (fun s x W => ∃ r, chainI ns i = s ++ x :: r) (fun x => true)
    (fun W W' => Below w.heap.size W W') (fun h k => h.trans k) ?kb
    (fun s => s = chainI ns i) (fun s x => True) ?seq (SeqHeld w) (fun _ _ _ => False) (fun s W W' h ht => h.turns (by omega) ht) (fun s x W W' h ht => h) (fun s x W W' h ht => h) h0
    (fun s x a' W => a' = { tmps := #[.slice none 0 0, .func (.func 39) #[] #[.pointer (some ⟨B1, 0, none⟩), .pointer (some ⟨B2, 0, none⟩)], .pointer (some ⟨w.heap.size, 0, none⟩), undef, .slice none 0 0, .int .i64 x, .func (.func 39) #[] #[.pointer (some ⟨B1, 0, none⟩), .pointer (some ⟨B2, 0, none⟩)], .int .i64 x, undef, undef, undef, undef, undef], defers := [] })
    (fun s x a' W W' h ht => h) ?assign ?body ?done ?stop
  case kb =>
    intro W l o o' hl ho hc
    exact (Turns.putObj o' (by omega) ho hc).below
  case seq =>
    intro l J Jx W hT hJ hY hj0
    have hBW := hB0.trans (hT.below.mono (by omega))
    have hTc := hT.below
    refine (up1_in l B1 B2 w.heap.size A c ns n hn hnc (by omega) hr i J Jx ?_ W hBW.size (hB1.below hBW b1lt) (hB2.below hBW b2lt) (hI.below hBW) hj0).mono ?_
    · intro pre j W1 hj he
      refine (hY pre j W1 hj he).mono ?_
      rintro en W2 (⟨h1, _, h3, h4⟩ | ⟨h1, h2, h3⟩)
      · exact .inl ⟨h1, h3, h4, h4.block _ b1lt, h4.block _ b2lt⟩
      · cases h2
    · rintro en W2 ⟨hv, (h1 | ⟨pre, j, r, h1, h2⟩)⟩
      · exact ⟨hv, .inl ⟨_, rfl, h1⟩⟩
      · exact ⟨hv, .inr ⟨pre, j, trivial, h2⟩⟩
  case assign =>
    intro l s x W K hH hE hK
    have HK := Lib.hid hK
    clear hK
    gi_wp2
    exact HK.out _ _ (KeepsOthers.refl _) (Below.refl _ _) hH hE rfl
  case body =>
    rintro l s x a' W hH ⟨r, hE⟩ rfl
    obtain ⟨hB, v, q0, ho⟩ := hH
    obtain ⟨i0, hi0, hz0, hz1, hz2⟩ := info_parts infoInt
    have hsl : s.length < n := by
      have := HLEN.out
      rw [hE, List.length_append, List.length_cons] at this
      omega
    obtain ⟨A1, cp1, rfl⟩ := own_form ho
    have c0 : W.cell? ⟨w.heap.size, 0, none⟩ = some (.slice A1 s.length cp1) := Blk.at_ q0 0 rfl
    have hBs := hB.size
    clear hE
    gi_wp2_with (gi_at_builtin; refine wpListIn_append_lies _ rfl (.tmp 8) (.tmp 10) _ rfl w.heap.size 3 i0 _ 1 8 Try.underlying22 hi0 hz0 hz1 hz2 rfl (by omega) _ s.length _ rfl (ho.alloc _) ⟨W.heap.size, 0, none⟩ 1 1 [.int .i64 (x : Int)] rfl rfl (World.news_of_block (heap_alloc_new W _)) (by intro u hu; simp at hu; subst hu; rfl) (by omega) (by unfold maxLen; omega) (by omega) (by simp; omega) (W.heap.size + 1) (by simp) ?_)
    intro g cap w2 hown2 hgrow _ _
    have hne := own_blk_ne ho q0 (by decide)
    have q2 := (q0.alloc (.cells #[.int .i64 (x : Int)] 3)).grown hgrow hne.symm
    have hrow := fun (k : Nat) hk => own_row (ho.alloc (.cells #[.int .i64 (x : Int)] 3)) (g := k) hk
    have hB2 := ((Below.refl w.heap.size W).alloc hBs (.cells #[.int .i64 (x : Int)] 3)).grown hgrow (by simp; omega) (fun k hk => (hrow k hk).1)
    have hKO : KeepsOthers W w2 := (KeepsOthers.alloc W _).trans (KeepsOthers.of_grownBy hgrow fun j o hj ho' => by
      obtain ⟨_, cs, hb⟩ := hrow j hj
      have := hb.out.symm.trans ho'
      cases this; rfl)
    have c2 : w2.cell? ⟨w.heap.size, 0, none⟩ = some (.slice A1 s.length cp1) := Blk.at_ q2 0 rfl
    have f2 := q2.frozen 0
    have n2 := own_blk_ne hown2 q2 (by decide)
    have R1 : Hid (World.ownsRow (w2.setCell ⟨w.heap.size, 0, none⟩ (.slice (some ⟨g, 0, none⟩) (s.length + 1) cap)) w.heap.size 3 1 (.slice (some ⟨g, 0, none⟩) (s.length + 1) cap) (s ++ [x]).length (iv (toI (s ++ [x])))) := Lib.hid (by
      rw [toI_append, iv_append, List.length_append, List.length_singleton]
      exact own_far hown2 n2 _)
    clear hgrow hrow hown2 ho q0 c0 hne
    gi_wp2
    exact ⟨hKO.trans (KeepsOthers.setCell _ _ _), hB2.setCell (Nat.le_refl _) _, rfl, hB.trans (hB2.setCell (Nat.le_refl _) _), _, q2.set_ 0 _, R1.out⟩
  case done =>
    rintro D s W hD rfl ⟨hB, v, q0, ho⟩ hdef
    obtain ⟨A1, cp1, rfl⟩ := own_form ho
    have c0 : W.cell? ⟨w.heap.size, 0, none⟩ = some (.slice A1 (chainI ns i).length cp1) := Blk.at_ q0 0 rfl
    gi_wp2_with fail
    have hT := Turns.putObj (B := w6.heap.size) (.deferred none) hD hdef rfl
    refine ⟨by simp, .inl ⟨_, _, rfl, run_takeDeferred hdef, ?_⟩⟩
    refine ⟨.slice A1 (chainI ns i).length cp1, by simp [results, Try.results38, go_sem], A1, cp1, by rw [toI_length], hB.trans (hT.below.mono (by omega)), ?_⟩
    rw [toI_length]
    exact own_turns hT ho
  case stop =>
    rintro D s x W hD _ h _
    exact h.elim

theorem collect_any (B1 B2 : Nat) (A : Option Addr) (c : Nat) (ns : List N) (n : Nat) (hn : n = ns.length) (hnc : n ≤ c) (hcm : n ≤ 1000000000000) (hr : right ns = true) (i : Int) (w : World)
    (hB1 : Blk w B1 23 #[.slice A n c]) (hB2 : Blk w B2 3 #[.int .i64 i]) (hI : Nodes w w.heap.size A ns) :
    Calls Try.prog 25 #[.func (.func 39) #[] #[.pointer (some ⟨B1, 0, none⟩), .pointer (some ⟨B2, 0, none⟩)]] w (IntsOut w (toI (chainI ns i))) := by
  go_enter Try.func25, Try.ntmps25
  go_wp2_with fail
  refine (appendseq_any B1 B2 A c ns n hn hnc hcm hr i w hB1 hB2 hI).mono ?_
  rintro e w1 ⟨A1, c1, rfl, hb, ho⟩
  go_wp2
  go_ret
  exact ⟨A1, c1, rfl, hb, ho⟩

theorem up_any (A : Option Addr) (n c : Nat) (i : Int) (w : World) :
    Calls Try.prog 26 #[.slice A n c, .int .i64 i] w fun e w' => e = .returned (.func (.func 39) #[] #[.pointer (some ⟨w.heap.size, 0, none⟩), .pointer (some ⟨w.heap.size + 1, 0, none⟩)]) ∧ (w.alloc (.cells #[.slice A n c] 23)).alloc (.cells #[.int .i64 i] 3) = w' := by
  go_enter Try.func26, Try.ntmps26
  go_wp2
  go_ret
  exact ⟨rfl, rfl⟩

theorem chain_any (A : Option Addr) (c : Nat) (ns : List N) (n : Nat) (hn : n = ns.length) (hnc : n ≤ c) (hcm : n ≤ 1000000000000) (hr : right ns = true) (i : Int) (w : World) (hI : Nodes w w.heap.size A ns) :
    Calls Try.prog 10 #[.slice A n c, .int .i64 i] w (IntsOut w (toI (chainI ns i))) := by
  have z1 := Blk.new_ w 23 #[.slice A n c] rfl
  have z2 := Blk.new_ (w.alloc (.cells #[.slice A n c] 23)) 3 #[.int .i64 i] (n := w.heap.size + 1) (by simp)
  have hB : Below w.heap.size w ((w.alloc (.cells #[.slice A n c] 23)).alloc (.cells #[.int .i64 i] 3)) := ((Below.refl _ w).alloc (Nat.le_refl _) _).alloc (by simp) _
  have z1' := z1.alloc (.cells #[.int .i64 i] 3)
  have HN := Lib.hid hn
  clear hn
  go_enter Try.func10, Try.ntmps10
  go_wp2_with fail
  refine (up_any A n c i w).mono ?_
  rintro e w1 ⟨rfl, rfl⟩
  go_wp2_with fail
  refine (collect_any w.heap.size (w.heap.size + 1) A c ns n HN.out hnc hcm hr i _ z1' z2 (hI.grow hB)).mono ?_
  rintro e w1 ⟨A1, c1, rfl, hb, ho⟩
  go_wp2
  go_ret
  exact ⟨A1, c1, rfl, hB.trans (hb.mono hB.size), own_base ho hB.size⟩
end Go.Proofs.Ytifmnoepifgaiaa.ScW

namespace Go.Proofs.Ytifmnoepifgaiaa.ScW
set_option linter.unusedVariables false
open Go.RowKit Go.Shelf Go.Proofs Go.Proofs.Ytifmnoepifgaiaa Go.Proofs.Ytifmnoepifgaiaa.Wd
open Go.Proofs.Ytifmnoepifgaiaa.Sc (N own flow rightAt right chain place chainI deep over below owned)
attribute [local go_sem] Oper.semAt_some

def DeepHeld (w : World) (pre : List Nat) (W : World) : Prop := Below w.heap.size w W ∧ Blk W w.heap.size 3 #[.int .i64 ((pre.length : Int) + 1)]
theorem DeepHeld.turns {w W W' : World} {pre : List Nat} (h : DeepHeld w pre W) {B : Nat} (hB : w.heap.size ≤ B) (ht : Turns B W W') : DeepHeld w pre W' :=
  ⟨h.1.trans (ht.below.mono hB), Turns.blk ht h.2⟩
theorem chainI_length {ns : List N} {i : Int} : (chainI ns i).length ≤ ns.length := by
  unfold chainI
  cases hp : place ns i
  · exact Nat.zero_le _
  · rw [if_pos rfl]
    have := Sc.chain_length ns i.toNat
    unfold place at hp; simp at hp; omega

def OverHeld (w : World) (a : Int) (pre : List Nat) (W : World) : Prop := Below w.heap.size w W ∧ Blk W w.heap.size 3 #[.int .i64 a] ∧ Blk W (w.heap.size + 1) 4 #[.bool false] ∧ RowKit.Hid (∀ j ∈ pre, (j : Int) ≠ a)
def OverStop (w : World) (a : Int) (pre : List Nat) (x : Nat) (W : World) : Prop := Below w.heap.size w W ∧ Blk W (w.heap.size + 1) 4 #[.bool true] ∧ (x : Int) = a
theorem OverHeld.turns {w W W' : World} {a : Int} {pre : List Nat} (h : OverHeld w a pre W) {B : Nat} (hB : w.heap.size ≤ B) (ht : Turns B W W') : OverHeld w a pre W' :=
  ⟨h.1.trans (ht.below.mono hB), Turns.blk ht h.2.1, Turns.blk ht h.2.2.1, h.2.2.2⟩
theorem OverStop.turns {w W W' : World} {a : Int} {pre : List Nat} {x : Nat} (h : OverStop w a pre x W) {B : Nat} (hB : w.heap.size ≤ B) (ht : Turns B W W') : OverStop w a pre x W' :=
  ⟨h.1.trans (ht.below.mono hB), Turns.blk ht h.2.1, h.2.2⟩
set_option maxRecDepth 100000 in
set_option maxHeartbeats 4000000 in
theorem over_any (A : Option Addr) (c : Nat) (ns : List N) (n : Nat) (hn : n = ns.length) (hnc : n ≤ c) (hcm : n ≤ 1000000000000) (hr : right ns = true) (a b : Int) (w : World) (hI : Nodes w w.heap.size A ns) :
    Calls Try.prog 12 #[.slice A n c, .int .i64 a, .int .i64 b] w fun e w' => e = .returned (.bool (over ns a b)) ∧ Below w.heap.size w w' := by
  have HN := Lib.hid hn
  clear hn
  refine (callsIn_wide (n := 10)).1 ?_
  refine callsIn_of_wp_marks Try.func12 rfl trivial ?_ rfl
  simp only [Try.ntmps12, List.size_toArray, List.length_cons, List.length_nil, Nat.reduceAdd, Nat.reduceSub, Array.replicate_succ, Array.replicate_zero, List.push_toArray, List.append_toArray, List.nil_append, List.cons_append]
  gi_wp2_with fail
  refine ⟨trivial, ?_⟩
  refine (callsIn_wide.2 (up_any A n c b _)).mono ?_
  rintro e w1 ⟨rfl, rfl⟩
  gi_wp2_with fail
  have z0 := (((Blk.new_ w 3 #[.int .i64 a] rfl).alloc (.cells #[.bool false] 4)).alloc (.cells #[.slice A n c] 23)).alloc (.cells #[.int .i64 b] 3)
  have z1 := ((Blk.new_ (w.alloc (.cells #[.int .i64 a] 3)) 4 #[.bool false] (n := w.heap.size + 1) (by simp)).alloc (.cells #[.slice A n c] 23)).alloc (.cells #[.int .i64 b] 3)
  have z2 := (Blk.new_ ((w.alloc (.cells #[.int .i64 a] 3)).alloc (.cells #[.bool false] 4)) 23 #[.slice A n c] (n := w.heap.size + 1 + 1) (by simp)).alloc (.cells #[.int .i64 b] 3)
  have z3 := Blk.new_ (((w.alloc (.cells #[.int .i64 a] 3)).alloc (.cells #[.bool false] 4)).alloc (.cells #[.slice A n c] 23)) 3 #[.int .i64 b] (n := w.heap.size + 1 + 1 + 1) (by simp)
  have hB0 : Below w.heap.size w ((((w.alloc (.cells #[.int .i64 a] 3)).alloc (.cells #[.bool false] 4)).alloc (.cells #[.slice A n c] 23)).alloc (.cells #[.int .i64 b] 3)) := ((((Below.refl _ w).alloc (Nat.le_refl _) _).alloc (by simp) _).alloc (by simp; omega) _).alloc (by simp; omega) _
  have hsz : ((((w.alloc (.cells #[.int .i64 a] 3)).alloc (.cells #[.bool false] 4)).alloc (.cells #[.slice A n c] 23)).alloc (.cells #[.int .i64 b] 3)).heap.size = w.heap.size + 4 := by simp
  have h0 : OverHeld w a [] ((((w.alloc (.cells #[.int .i64 a] 3)).alloc (.cells #[.bool false] 4)).alloc (.cells #[.slice A n c] 23)).alloc (.cells #[.int .i64 b] 3)) := ⟨hB0, z0, z1, Lib.hid (fun j hj => by cases hj)⟩
  generalize ((((w.alloc (.cells #[.int .i64 a] 3)).alloc (.cells #[.bool false] 4)).alloc (.cells #[.slice A n c] 23)).alloc (.cells #[.int .i64 b] 3)) = w6 at *
  refine range_ev (gf := 39) (lb := #[.pointer (some ⟨w.heap.size + 1 + 1, 0, none⟩), .pointer (some ⟨w.heap.size + 1 + 1 + 1, 0, none⟩)]) rfl (enters_of Try.func39 (by kernel_rfl) rfl)
    (fun x : Nat => #[.int .i64 x]) (fun _ => rfl) (fun s x => s ++ [x]) [] (fun s x W => ∃ r, chainI ns b = s ++ x :: r) (fun x => !((x : Int) == a))
    (fun W W' => Below w.heap.size W W' ∧ W'.heap[w.heap.size + 1 + 1]? = W.heap[w.heap.size + 1 + 1]? ∧ W'.heap[w.heap.size + 1 + 1 + 1]? = W.heap[w.heap.size + 1 + 1 + 1]?) (fun h k => ⟨h.1.trans k.1, k.2.1.trans h.2.1, k.2.2.trans h.2.2⟩) ?kb
    (fun s => s = chainI ns b) (fun s x => ∃ r, chainI ns b = s ++ x :: r) ?seq (OverHeld w a) (OverStop w a) (fun s W W' h ht => h.turns (by omega) ht) (fun s x W W' h ht => h.turns (by omega) ht) (fun s x W W' h ht => h) h0
    (fun s x a' W => a' = { tmps := #[.slice A n c, .int .i64 a, .int .i64 b, undef, .pointer (some ⟨w.heap.size, 0, none⟩), undef, .pointer (some ⟨w.heap.size + 1, 0, none⟩), .int .i64 x, .slice A n c, .int .i64 b, .func (.func 39) #[] #[.pointer (some ⟨w.heap.size + 1 + 1, 0, none⟩), .pointer (some ⟨w.heap.size + 1 + 1 + 1, 0, none⟩)], .int .i64 x, undef, undef, undef], defers := [] })
    (fun s x a' W W' h ht => h) ?assign ?body ?done ?stop
  case kb =>
    intro W l o o' hl ho hc
    exact ⟨(Turns.putObj o' (by omega) ho hc).below, World.putObj_heap_other (by omega), World.putObj_heap_other (by omega)⟩
  case seq =>
    intro l J Jx W hT hJ hY hj0
    have hBW := hB0.trans (hT.below.mono (by omega))
    refine (up1_in l (w.heap.size + 1 + 1) (w.heap.size + 1 + 1 + 1) w.heap.size A c ns n HN.out hnc (by omega) hr b J Jx ?_ W hBW.size (Turns.blk hT z2) (Turns.blk hT z3) (hI.below hBW) hj0).mono ?_
    · intro pre j W1 hj he
      refine (hY pre j W1 hj he).mono ?_
      rintro en W2 (⟨h1, _, h3, h4, h5, h6⟩ | ⟨h1, h2, h3⟩)
      · exact .inl ⟨h1, h3, h4, h5, h6⟩
      · exact .inr ⟨h1, h3⟩
    · rintro en W2 ⟨hv, (h1 | ⟨pre, j, r, h1, h2⟩)⟩
      · exact ⟨hv, .inl ⟨_, rfl, h1⟩⟩
      · exact ⟨hv, .inr ⟨pre, j, ⟨r, h1⟩, h2⟩⟩
  case assign =>
    intro l s x W K hH hE hK
    have HK := Lib.hid hK
    clear hK
    gi_wp2
    exact HK.out _ _ (KeepsOthers.refl _) ⟨Below.refl _ _, rfl, rfl⟩ hH hE (by simp)
  case body =>
    rintro l s x a' W ⟨hB, q0, q1, hne⟩ ⟨r, hE⟩ rfl
    have c0 : W.cell? ⟨w.heap.size, 0, none⟩ = some (.int .i64 a) := Blk.at_ q0 0 rfl
    have c1 : W.cell? ⟨w.heap.size + 1, 0, none⟩ = some (.bool false) := Blk.at_ q1 0 rfl
    have f1 := q1.frozen 0
    clear hE
    by_cases hx : (x : Int) = a
    · have u1 : ((x : Int) == a) = true := by simpa using hx
      have HX := Lib.hid hx
      clear hx
      gi_wp2
      exact ⟨KeepsOthers.setCell _ _ _, by dsimp only; rw [u1]; rfl, hB.setCell (p := ⟨w.heap.size + 1, 0, none⟩) (by simp) _, q1.set_ 0 _, HX.out⟩
    · have u1 : ((x : Int) == a) = false := by simpa using hx
      have HX : Hid (∀ j ∈ s ++ [x], (j : Int) ≠ a) := Lib.hid (fun j hj => by
        rcases List.mem_append.1 hj with h | h
        · exact hne.out j h
        · rw [List.mem_singleton.1 h]; exact hx)
      clear hx
      gi_wp2
      exact ⟨KeepsOthers.refl _, ⟨Below.refl _ _, rfl, rfl⟩, by dsimp only; rw [u1]; rfl, hB, q0, q1, HX⟩
  case done =>
    rintro D s W hD rfl ⟨hB, q0, q1, hne⟩ hdef
    have hov : Hid (over ns a b = false) := Lib.hid (by
      unfold over
      rw [Bool.eq_false_iff]; intro h
      obtain ⟨o, ho, he⟩ := List.any_eq_true.1 h
      exact hne.out o ho (by simpa using he))
    have c1 : W.cell? ⟨w.heap.size + 1, 0, none⟩ = some (.bool false) := Blk.at_ q1 0 rfl
    have f1 := q1.frozen 0
    have q1' := q1.set_ 0 (.bool false)
    have hB' := hB.setCell (p := ⟨w.heap.size + 1, 0, none⟩) (by simp) (.bool false)
    have hdef' : (W.setCell ⟨w.heap.size + 1, 0, none⟩ (.bool false)).heap[D]? = some (.deferred (some [])) := (KeepsOthers.setCell W ⟨w.heap.size + 1, 0, none⟩ (.bool false)).same _ _ hdef rfl
    clear hne
    gi_wp2_with fail
    generalize W.setCell ⟨w.heap.size + 1, 0, none⟩ (.bool false) = W4 at *
    have hT := Turns.putObj (B := w6.heap.size) (.deferred none) hD hdef' rfl
    have q2 : World.cell? (W4.putObj D (.deferred none)) ⟨w.heap.size + 1, 0, none⟩ = some (.bool false) := Blk.at_ (Turns.blk hT q1') 0 rfl
    refine ⟨by simp, .inl ⟨_, _, rfl, run_takeDeferred hdef', ?_⟩⟩
    refine ⟨.bool false, by simp [results, Try.results12, go_sem, q2], by rw [hov.out], hB'.trans (hT.below.mono (by omega))⟩
  case stop =>
    rintro D s x W hD ⟨r, hE⟩ ⟨hB, q1, hx⟩ hdef
    have hov : Hid (over ns a b = true) := Lib.hid (by
      unfold over
      rw [List.any_eq_true]
      exact ⟨x, by rw [hE]; simp, by simpa using hx⟩)
    clear hE hx
    gi_wp2_with fail
    have hT := Turns.putObj (B := w6.heap.size) (.deferred none) hD hdef rfl
    have q2 : World.cell? (W.putObj D (.deferred none)) ⟨w.heap.size + 1, 0, none⟩ = some (.bool true) := Blk.at_ (Turns.blk hT q1) 0 rfl
    refine ⟨by simp, .inl ⟨_, _, rfl, run_takeDeferred hdef, ?_⟩⟩
    refine ⟨.bool true, by simp [results, Try.results12, go_sem, q2], by rw [hov.out], hB.trans (hT.below.mono (by omega))⟩
end Go.Proofs.Ytifmnoepifgaiaa.ScW

namespace Go.Proofs.Ytifmnoepifgaiaa.ScW
set_option linter.unusedVariables false
open Go.RowKit Go.Shelf Go.Proofs Go.Proofs.Ytifmnoepifgaiaa Go.Proofs.Ytifmnoepifgaiaa.Wd
open Go.Proofs.Ytifmnoepifgaiaa.Sc (N own flow rightAt right chain place chainI deep over below owned)

/-- The cells of bools. -/
def bv (l : List Bool) : List Value := l.map (.bool ·)
theorem bv_length (l : List Bool) : (bv l).length = l.length := by simp [bv]
theorem bv_get (l : List Bool) (j : Nat) (h : j < (bv l).length) : (bv l)[j] = .bool (l[j]'(by simpa [bv] using h)) := by simp [bv]
theorem bv_set (l : List Bool) (k : Nat) (x : Bool) : (bv l).set k (.bool x) = bv (l.set k x) := by simp [bv, List.map_set]
/-- Who is known to be below m when those ahead of k have been asked. -/
def inB (ns : List N) (m k : Nat) : List Bool := (List.range ns.length).map fun j => decide (j < k) && decide (m ∈ chain ns j)
theorem inB_length (ns : List N) (m k : Nat) : (inB ns m k).length = ns.length := by simp [inB]
theorem inB_get (ns : List N) (m k j : Nat) (hj : j < (inB ns m k).length) : (inB ns m k)[j] = (decide (j < k) && decide (m ∈ chain ns j)) := by simp [inB]
theorem inB_start (ns : List N) (m : Nat) : inB ns m (m + 1) = List.replicate ns.length false := by
  apply List.ext_getElem
  · rw [inB_length, List.length_replicate]
  · intro j h1 h2
    rw [inB_get, List.getElem_replicate]
    by_cases hj : j < m + 1
    · have : ¬ m ∈ chain ns j := fun h => by have := Sc.chain_lt ns j m h; omega
      simp [this]
    · simp [hj]
theorem inB_step {ns : List N} {m k : Nat} (hk : k < ns.length) : inB ns m (k + 1) = (inB ns m k).set k (decide (m ∈ chain ns k)) := by
  apply List.ext_getElem
  · rw [inB_length, List.length_set, inB_length]
  · intro j h1 h2
    rw [inB_get, List.getElem_set]
    by_cases hj : k = j
    · subst hj; simp
    · rw [if_neg hj, inB_get]
      have : decide (j < k + 1) = decide (j < k) := by rw [decide_eq_decide]; omega
      rw [this]

set_option maxHeartbeats 1000000 in
theorem below1_any (B1 B2 B3 gi : Nat) (A : Option Addr) (c : Nat) (ns : List N) (n : Nat) (hn : n = ns.length) (hnc : n ≤ c) (hcm : n ≤ 1000000000000) (hr : right ns = true) (m k : Nat) (hk : k < ns.length) (hmk : m < k) (w : World)
    (h1 : Blk w B1 23 #[.slice A n c]) (h2 : Blk w B2 3 #[.int .i64 m]) (h3 : Blk w B3 75 #[.slice (some ⟨gi, 0, none⟩) n n]) (h4 : Blk w gi 4 (bv (inB ns m k)).toArray) (hI : Nodes w w.heap.size A ns) :
    Calls Try.prog 34 #[.int .i64 k, .pointer (some ⟨B1, 0, none⟩), .pointer (some ⟨B2, 0, none⟩), .pointer (some ⟨B3, 0, none⟩)] w fun e w' => e = .returned (.bool (decide (m ∈ chain ns k))) ∧ w = w' := by
  have c1 : w.cell? ⟨B1, 0, none⟩ = some (.slice A n c) := Blk.at_ h1 0 rfl
  have c2 : w.cell? ⟨B2, 0, none⟩ = some (.int .i64 m) := Blk.at_ h2 0 rfl
  have c3 : w.cell? ⟨B3, 0, none⟩ = some (.slice (some ⟨gi, 0, none⟩) n n) := Blk.at_ h3 0 rfl
  obtain ⟨b1, o1, rfl, hb1, hc4⟩ := hI.own_at hk
  obtain ⟨r1, r2, _⟩ := Sc.right_at hr hk
  have hmem := Lib.hid (Sc.chain_mem r1 r2 m)
  have hkn : k < n := by omega
  have hcell : ∀ o : Nat, o < k → w.cell? ⟨gi, o, none⟩ = some (.bool (decide (m ∈ chain ns o))) := fun o ho => by
    rw [h4.cell]
    have hl : o < (bv (inB ns m k)).length := by rw [bv_length, inB_length]; omega
    rw [List.getElem?_toArray, List.getElem?_eq_getElem hl, bv_get, inB_get]
    simp [ho]
  have HC := Lib.hid hcell
  clear hcell h1 h2 h3 h4 hn hr
  obtain ⟨x, hx⟩ : ∃ x, x = own ns k := ⟨_, rfl⟩
  rw [← hx] at hc4 r1 r2 hmem
  clear hx
  by_cases e1 : x = m
  · have u1 : (x == (m : Int)) = true := by simpa using e1
    have HX : Hid (decide (m ∈ chain ns k) = true) := Lib.hid (by rw [decide_eq_true_iff]; exact hmem.out.2 (.inl e1))
    clear e1 hmem
    go_enter Try.func34, Try.ntmps34
    go_wp2
    go_ret
    exact ⟨by rw [HX.out]; rfl, rfl⟩
  have u1 : (x == (m : Int)) = false := by simpa using e1
  by_cases e2 : (m : Int) < x
  · obtain ⟨o, rfl⟩ : ∃ o : Nat, x = o := ⟨x.toNat, by omega⟩
    have u2 : decide ((m : Int) < (o : Int)) = true := by simpa using e2
    have u2' : decide (m < o) = true := by simp; omega
    have HX : Hid (decide (m ∈ chain ns k) = decide (m ∈ chain ns o)) := Lib.hid (by rw [decide_eq_decide, hmem.out]; simp [e2]; omega)
    have hco := HC.out o (by omega)
    have u3 : (o : Int) < (n : Int) := by omega
    have u4 : (0 : Int) ≤ (o : Int) := by omega
    clear e1 e2 hmem
    go_enter Try.func34, Try.ntmps34
    go_wp2
    go_ret
    exact ⟨by rw [HX.out]; rfl, rfl⟩
  · have u2 : decide ((m : Int) < x) = false := by simpa using e2
    have HX : Hid (decide (m ∈ chain ns k) = false) := Lib.hid (by
      rw [decide_eq_false_iff_not, hmem.out]
      rintro (h | ⟨h, _⟩)
      · exact e1 h
      · exact e2 h)
    clear e1 e2 hmem
    go_enter Try.func34, Try.ntmps34
    go_wp2
    go_ret
    exact ⟨by rw [HX.out]; rfl, rfl⟩

theorem infoBool : (Try.prog.info? 4).map (fun i => (i.zero, i.size, i.bytes)) = some (some (.bool false), 1, 1) := by kernel_rfl
theorem made_bools (n : Nat) : madeCells #[Value.bool false] n = (bv (List.replicate n false)).toArray := by
  apply Array.ext
  · simp [madeCells, bv]
  · intro i h1 h2
    simp [madeCells, bv, Nat.mod_one]
theorem below_fil {ns : List N} {m : Nat} (hm : m < ns.length) : below ns (m : Int) = fil (fun k => decide (m ∈ chain ns k)) ns.length := by
  unfold below fil
  rw [if_pos (Sc.place_nat hm)]
  apply List.filter_congr
  intro k hk
  exact Sc.over_nat (List.mem_range.1 hk)
/-- Nobody up to m is below m. -/
theorem fil_start (ns : List N) (m : Nat) : fil (fun k => decide (m ∈ chain ns k)) (m + 1) = [] := by
  unfold fil
  rw [List.filter_eq_nil_iff]
  intro j hj h
  have := Sc.chain_lt ns j m (by simpa using h)
  have := List.mem_range.1 hj
  omega
set_option maxRecDepth 100000 in
set_option maxHeartbeats 4000000 in
theorem below_any (A : Option Addr) (c : Nat) (ns : List N) (n : Nat) (hn : n = ns.length) (hnc : n ≤ c) (hcm : n ≤ 1000000000000) (hr : right ns = true) (i : Int) (w : World) (hI : Nodes w w.heap.size A ns) :
    Calls Try.prog 16 #[.slice A n c, .int .i64 i] w (IntsOut w (toI (below ns i))) := by
  have HN := Lib.hid hn
  clear hn
  have z1 := (Blk.new_ w 23 #[.slice A n c] rfl).alloc (.cells #[.int .i64 i] 3)
  have z2 := Blk.new_ (w.alloc (.cells #[.slice A n c] 23)) 3 #[.int .i64 i] (n := w.heap.size + 1) (by simp)
  have hB0 : Below w.heap.size w ((w.alloc (.cells #[.slice A n c] 23)).alloc (.cells #[.int .i64 i] 3)) := ((Below.refl _ w).alloc (Nat.le_refl _) _).alloc (by simp) _
  cases hp : place ns i
  · have hd : Hid (below ns i = []) := Lib.hid (by unfold below; rw [hp]; rfl)
    go_enter Try.func16, Try.ntmps16
    go_wp2_with fail
    refine (place_any A c ns n HN.out i _).mono ?_
    rintro e w1 ⟨rfl, rfl⟩
    rw [hp]
    go_wp2
    go_ret
    exact ⟨none, 0, by rw [hd.out]; rfl, hB0, by rw [hd.out]; exact own_nil _ _ _⟩
  obtain ⟨m, rfl⟩ : ∃ m : Nat, i = m := ⟨i.toNat, by unfold place at hp; simp at hp; omega⟩
  have hml : m < ns.length := by unfold place at hp; simp at hp; exact hp
  have hmn : m < n := by have := HN.out; omega
  obtain ⟨i0, hi0, hz0, hz1, hz2⟩ := info_parts infoInt
  obtain ⟨j0, hj0, hy0, hy1, hy2⟩ := info_parts infoBool
  have hmk : ∀ u : World, (Instr.makeSlice 75 (.int .i64 (n : Int)) (.int .i64 (n : Int))).run Try.prog u = .ok (.slice (some ⟨u.heap.size, 0, none⟩) n n) (u.alloc (.cells (bv (List.replicate n false)).toArray 4)) := fun u => by
    have h := run_make (P := Try.prog) u 75 4 j0 (.bool false) Try.underlying75 hj0 hy0 .i64 .i64 (n : Int) (n : Int) (by omega) (Int.le_refl _) (by rw [hy2]; omega) (by omega)
    rw [Int.toNat_natCast, hy1, Nat.mul_one] at h
    rw [h, ← made_bools]; rfl
  have hbf := Lib.hid (below_fil hml)
  have hst := Lib.hid (inB_start ns m)
  have hfs := Lib.hid (fil_start ns m)
  have HR := Lib.hid hr
  clear hr
  go_enter Try.func16, Try.ntmps16
  go_wp2_with fail
  refine (place_any A c ns n HN.out (m : Int) _).mono ?_
  rintro e w1 ⟨rfl, rfl⟩
  rw [hp]
  clear hp
  go_wp2
  have y1 := (z1.alloc (.cells (bv (List.replicate n false)).toArray 4)).alloc (.cells #[.slice (some ⟨w.heap.size + 1 + 1, 0, none⟩) n n] 75)
  have y2 := (z2.alloc (.cells (bv (List.replicate n false)).toArray 4)).alloc (.cells #[.slice (some ⟨w.heap.size + 1 + 1, 0, none⟩) n n] 75)
  have y3 := (Blk.new_ ((w.alloc (.cells #[.slice A n c] 23)).alloc (.cells #[.int .i64 m] 3)) 4 (bv (List.replicate n false)).toArray (n := w.heap.size + 1 + 1) (by simp)).alloc (.cells #[.slice (some ⟨w.heap.size + 1 + 1, 0, none⟩) n n] 75)
  have y4 := Blk.new_ (((w.alloc (.cells #[.slice A n c] 23)).alloc (.cells #[.int .i64 m] 3)).alloc (.cells (bv (List.replicate n false)).toArray 4)) 75 #[.slice (some ⟨w.heap.size + 1 + 1, 0, none⟩) n n] (n := w.heap.size + 1 + 1 + 1) (by simp)
  have hB4 := (hB0.alloc (by simp; omega) (.cells (bv (List.replicate n false)).toArray 4)).alloc (by simp; omega) (.cells #[.slice (some ⟨w.heap.size + 1 + 1, 0, none⟩) n n] 75)
  have hs4 : w.heap.size + 1 + 1 + 1 + 1 ≤ ((((w.alloc (.cells #[.slice A n c] 23)).alloc (.cells #[.int .i64 m] 3)).alloc (.cells (bv (List.replicate n false)).toArray 4)).alloc (.cells #[.slice (some ⟨w.heap.size + 1 + 1, 0, none⟩) n n] 75)).heap.size := by simp
  have y3' : Blk ((((w.alloc (.cells #[.slice A n c] 23)).alloc (.cells #[.int .i64 m] 3)).alloc (.cells (bv (List.replicate n false)).toArray 4)).alloc (.cells #[.slice (some ⟨w.heap.size + 1 + 1, 0, none⟩) n n] 75)) (w.heap.size + 1 + 1) 4 (bv (inB ns m (m + 1))).toArray := by rw [hst.out, ← HN.out]; exact y3
  generalize ((((w.alloc (.cells #[.slice A n c] 23)).alloc (.cells #[.int .i64 m] 3)).alloc (.cells (bv (List.replicate n false)).toArray 4)).alloc (.cells #[.slice (some ⟨w.heap.size + 1 + 1, 0, none⟩) n n] 75)) = W4 at *
  clear y3 z1 z2 hB0 hmk hst
  go_loopw [7, 8] (fun v o wr => ∃ k : Nat, m + 1 ≤ k ∧ k ≤ n ∧ o = .int .i64 k ∧ w.heap.size + 1 + 1 + 1 + 1 ≤ wr.heap.size ∧ wr.ownsRow (w.heap.size + 1 + 1 + 1 + 1) 3 1 v (fil (fun k => decide (m ∈ chain ns k)) k).length (iv (toI (fil (fun k => decide (m ∈ chain ns k)) k))) ∧ Below w.heap.size w wr ∧
    Blk wr w.heap.size 23 #[.slice A n c] ∧ Blk wr (w.heap.size + 1) 3 #[.int .i64 m] ∧ Blk wr (w.heap.size + 1 + 1 + 1) 75 #[.slice (some ⟨w.heap.size + 1 + 1, 0, none⟩) n n] ∧ Blk wr (w.heap.size + 1 + 1) 4 (bv (inB ns m k)).toArray) (fun _ o _ => n - (intOf o).toNat)
  case atStart => exact ⟨m + 1, Nat.le_refl _, hmn, by go_num, hs4, by rw [hfs.out]; exact own_nil _ _ _, hB4, y1, y2, y4, y3'⟩
  case round =>
    clear hB4 y1 y2 y4 y3' hfs hs4
    obtain ⟨k, hk1, hk2, rfl, hsz, hown, hB, q1, q2, q3, q4⟩ := hrel
    have c1 : wr.cell? ⟨w.heap.size, 0, none⟩ = some (.slice A n c) := Blk.at_ q1 0 rfl
    by_cases hlt : k < n
    · have hkl : k < ns.length := by have := HN.out; omega
      have i1 : (0 : Int) ≤ (k : Int) := by omega
      have i2 : (k : Int) < (n : Int) := by omega
      have hbound := fil_le (fun k => decide (m ∈ chain ns k)) k
      have hyes : m ∈ chain ns k → fil (fun k => decide (m ∈ chain ns k)) (k + 1) = fil (fun k => decide (m ∈ chain ns k)) k ++ [k] := fun h => fil_yes (by simpa using h)
      have hno : ¬ m ∈ chain ns k → fil (fun k => decide (m ∈ chain ns k)) (k + 1) = fil (fun k => decide (m ∈ chain ns k)) k := fun h => fil_no (by simpa using h)
      have HYES := Lib.hid hyes
      have HNO := Lib.hid hno
      clear hyes hno
      go_wp2_with fail
      refine wp_region_heldG [] (fun _ W => Blk W (w.heap.size + 1 + 1 + 1) 75 #[.slice (some ⟨w.heap.size + 1 + 1, 0, none⟩) n n]) (by kernel_rfl) ?_
      have hS := q3.drew
      change wpAnyG _ _ _ _ _ _ 7 _ _ wr.drew
      refine g_take (i := 0) rfl rfl (by kernel_rfl) (by kernel_rfl) (by kernel_rfl) (by kernel_rfl) (by kernel_rfl) (fun _ _ _ h => h) hS (fun L W hL hW => by have c0 := Blk.at_ hW 0 rfl; go_simp; rfl) ?_
      refine g_take (i := 1) rfl rfl (by kernel_rfl) (by kernel_rfl) (by kernel_rfl) (by kernel_rfl) (by kernel_rfl) (fun _ _ _ h => h) hS (fun L W hL hW => by go_simp; rfl) ?_
      refine g_take (i := 2) rfl rfl (by kernel_rfl) (by kernel_rfl) (by kernel_rfl) (by kernel_rfl) (by kernel_rfl) (fun _ _ _ h => h) hS (fun L W hL hW => by go_simp; rfl) ?_
      refine g_take (i := 3) rfl rfl (by kernel_rfl) (by kernel_rfl) (by kernel_rfl) (by kernel_rfl) (by kernel_rfl) (fun _ _ _ h => h) hS (fun L W hL hW => by go_simp; rfl) ?_
      refine g_one (i := 4) rfl rfl (by kernel_rfl) fun K hK => ?_
      go_simp
      refine Calls.mono (below1_any w.heap.size (w.heap.size + 1) (w.heap.size + 1 + 1 + 1) (w.heap.size + 1 + 1) A c ns n HN.out hnc hcm HR.out m k hkl (by omega) wr.drew q1.drew q2.drew q3.drew q4.drew (by exact (hI.below hB).more hB.size)) ?_
      rintro e w1 ⟨rfl, rfl⟩
      refine hK _ _ hS ?_
      clear hK K
      refine g_take (i := 5) rfl rfl (by kernel_rfl) (by kernel_rfl) (by kernel_rfl) (by kernel_rfl) (by kernel_rfl) (fun _ _ _ h => h) hS (fun L W hL hW => by go_simp; rfl) ?_
      refine g_one (i := 6) rfl rfl (by kernel_rfl) fun K hK => ?_
      have f4 := q4.drew.frozen k
      obtain ⟨v0, hv0⟩ : ∃ v0, World.cell? wr.drew ⟨w.heap.size + 1 + 1, k, none⟩ = some v0 := ⟨_, (q4.drew.cell k).trans (by rw [List.getElem?_toArray]; exact List.getElem?_eq_getElem (by rw [bv_length, inB_length]; exact hkl))⟩
      have q1' := (q1.farN (b := w.heap.size + 1 + 1) (o := k) (by omega) (.bool (decide (m ∈ chain ns k)))).drew
      have q2' := (q2.farN (b := w.heap.size + 1 + 1) (o := k) (by omega) (.bool (decide (m ∈ chain ns k)))).drew
      have q3' := (q3.farN (b := w.heap.size + 1 + 1) (o := k) (by omega) (.bool (decide (m ∈ chain ns k)))).drew
      have q4' : Blk (wr.setCell ⟨w.heap.size + 1 + 1, k, none⟩ (.bool (decide (m ∈ chain ns k)))).drew (w.heap.size + 1 + 1) 4 (bv (inB ns m (k + 1))).toArray := by
        have := (q4.set_ k (.bool (decide (m ∈ chain ns k)))).drew
        rw [inB_step hkl, ← bv_set]
        simpa using this
      have hown' : World.ownsRow (wr.setCell ⟨w.heap.size + 1 + 1, k, none⟩ (.bool (decide (m ∈ chain ns k)))).drew (w.heap.size + 1 + 1 + 1 + 1) 3 1 u7 (fil (fun k => decide (m ∈ chain ns k)) k).length (iv (toI (fil (fun k => decide (m ∈ chain ns k)) k))) := own_far hown (p := ⟨w.heap.size + 1 + 1, k, none⟩) (own_blk_ne hown q4 (by decide)) _
      have hB' := (hB.setCell (p := ⟨w.heap.size + 1 + 1, k, none⟩) (by simp; omega) (.bool (decide (m ∈ chain ns k)))).drew
      go_simp
      refine hK _ _ q3' (wpAnyG_done (by kernel_rfl) ?_ _)
      clear hK K f4 hv0 v0 hS q1 q2 q3 q4 hown hB
      have cin : World.cell? (wr.setCell ⟨w.heap.size + 1 + 1, k, none⟩ (.bool (decide (m ∈ chain ns k)))).drew ⟨w.heap.size + 1 + 1, k, none⟩ = some (.bool (decide (m ∈ chain ns k))) := by
        rw [q4'.cell, List.getElem?_toArray, List.getElem?_eq_getElem (by rw [bv_length, inB_length]; exact hkl), bv_get, inB_get]
        simp
      have c3 : World.cell? (wr.setCell ⟨w.heap.size + 1 + 1, k, none⟩ (.bool (decide (m ∈ chain ns k)))).drew ⟨w.heap.size + 1 + 1 + 1, 0, none⟩ = some (.slice (some ⟨w.heap.size + 1 + 1, 0, none⟩) n n) := Blk.at_ q3' 0 rfl
      have hbs : w.heap.size + 1 + 1 + 1 + 1 ≤ (wr.setCell ⟨w.heap.size + 1 + 1, k, none⟩ (.bool (decide (m ∈ chain ns k)))).drew.heap.size := by simpa using hsz
      generalize (wr.setCell ⟨w.heap.size + 1 + 1, k, none⟩ (.bool (decide (m ∈ chain ns k)))).drew = W2 at *
      clear hsz
      clear c1
      by_cases hin : m ∈ chain ns k
      · have hd : decide (m ∈ chain ns k) = true := decide_eq_true hin
        have HX := Lib.hid (HYES.out hin)
        rw [hd] at cin ⊢
        clear hin hd HYES HNO
        go_wp2_with (at_builtin; refine wpList_append_lies _ rfl (.tmp 35) (.tmp 37) _ rfl (w.heap.size + 1 + 1 + 1 + 1) 3 i0 _ 1 8 Try.underlying22 hi0 hz0 hz1 hz2 rfl (by omega) _ (fil (fun k => decide (m ∈ chain ns k)) k).length _ rfl (hown'.alloc _) ⟨W2.heap.size, 0, none⟩ 1 1 [.int .i64 (k : Int)] rfl rfl (World.news_of_block (heap_alloc_new W2 _)) (by intro u hu; simp at hu; subst hu; rfl) (by omega) (by unfold maxLen; omega) (by omega) (by simp; omega) (W2.heap.size + 1) (by simp) ?_)
        intro g cap w2 hown2 hgrow _ _
        have hrow := fun (j : Nat) hj => (own_row (hown'.alloc (.cells #[.int .i64 (k : Int)] 3)) (g := j) hj).1
        have hB2 := (hB'.alloc hB'.size (.cells #[.int .i64 (k : Int)] 3)).grown hgrow (by simp; omega) (fun j hj => by have := hrow j hj; omega)
        have k1 := (q1'.alloc (.cells #[.int .i64 (k : Int)] 3)).grown hgrow (fun h => by have := hrow _ h.symm; omega)
        have k2 := (q2'.alloc (.cells #[.int .i64 (k : Int)] 3)).grown hgrow (fun h => by have := hrow _ h.symm; omega)
        have k3 := (q3'.alloc (.cells #[.int .i64 (k : Int)] 3)).grown hgrow (fun h => by have := hrow _ h.symm; omega)
        have k4 := (q4'.alloc (.cells #[.int .i64 (k : Int)] 3)).grown hgrow (fun h => by have := hrow _ h.symm; omega)
        have hs2 : w.heap.size + 1 + 1 + 1 + 1 ≤ w2.heap.size := by have := hgrow.size; simp at this; omega
        have R1 : Hid (World.ownsRow w2 (w.heap.size + 1 + 1 + 1 + 1) 3 1 (.slice (some ⟨g, 0, none⟩) ((fil (fun k => decide (m ∈ chain ns k)) k).length + 1) cap) (fil (fun k => decide (m ∈ chain ns k)) (k + 1)).length (iv (toI (fil (fun k => decide (m ∈ chain ns k)) (k + 1))))) := Lib.hid (by
          rw [HX.out, List.length_append, toI_append, iv_append]; exact hown2)
        clear hgrow hown2 hown' hB' q1' q2' q3' q4' cin c3 hrow
        go_wp2
        go_roundw
        case rel => exact ⟨k + 1, by omega, by omega, by go_num, hs2, R1.out, hB2, k1, k2, k3, k4⟩
        case measure => simp [intOf]; omega
      · have hd : decide (m ∈ chain ns k) = false := decide_eq_false hin
        have HX := Lib.hid (HNO.out hin)
        rw [hd] at cin ⊢
        have R1 : Hid (World.ownsRow W2 (w.heap.size + 1 + 1 + 1 + 1) 3 1 u7 (fil (fun k => decide (m ∈ chain ns k)) (k + 1)).length (iv (toI (fil (fun k => decide (m ∈ chain ns k)) (k + 1))))) := Lib.hid (by rw [HX.out]; exact hown')
        clear hin hd HYES HNO hown'
        go_wp2
        go_roundw
        case rel => exact ⟨k + 1, by omega, by omega, by go_num, hbs, R1.out, hB', q1', q2', q3', q4'⟩
        case measure => simp [intOf]; omega
    · obtain rfl : k = n := by omega
      have R1 : Hid (World.ownsRow wr w.heap.size 3 1 u7 (below ns (m : Int)).length (iv (toI (below ns (m : Int))))) := Lib.hid (by rw [hbf.out, ← HN.out]; exact own_base hown (by omega))
      obtain ⟨A3, c3, rfl⟩ := own_form hown
      clear hown q2 q3 q4
      go_wp2
      go_ret
      have hl : (toI (below ns (m : Int))).length = (fil (fun k => decide (m ∈ chain ns k)) k).length := by rw [toI_length, hbf.out, ← HN.out]
      exact ⟨A3, c3, by rw [hl]; rfl, hB, by rw [hl]; have := R1.out; rw [hbf.out, ← HN.out] at this ⊢; exact this⟩
end Go.Proofs.Ytifmnoepifgaiaa.ScW

namespace Go.Proofs.Ytifmnoepifgaiaa.ScW
set_option linter.unusedVariables false
open Go.RowKit Go.Shelf Go.Proofs Go.Proofs.Ytifmnoepifgaiaa Go.Proofs.Ytifmnoepifgaiaa.Wd
open Go.Proofs.Ytifmnoepifgaiaa.Sc (N own flow rightAt right chain place chainI deep over below owned)

/-- The cells of nodes. -/
def NodeCells (xs : List Value) (ns : List N) : Prop :=
  xs.length = ns.length * 16 ∧ (∀ j, j < ns.length → xs[j * 16 + 3]? = some (.int .i64 (flow ns j)) ∧ xs[j * 16 + 4]? = some (.int .i64 (own ns j))) ∧ ∀ u ∈ xs, u.oneCell' = true
theorem NodeCells.nil : NodeCells [] [] := ⟨rfl, fun _ h => absurd h (Nat.not_lt_zero _), fun _ h => by cases h⟩
theorem own_app_left {ns : List N} {x : N} {j : Nat} (hj : j < ns.length) : own (ns ++ [x]) j = own ns j := by
  unfold own; simp [List.getD, List.getElem?_append_left hj]
theorem flow_app_left {ns : List N} {x : N} {j : Nat} (hj : j < ns.length) : flow (ns ++ [x]) j = flow ns j := by
  unfold flow; simp [List.getD, List.getElem?_append_left hj]
theorem own_app_right (ns : List N) (x : N) : own (ns ++ [x]) ns.length = x.1 := by unfold own; simp [List.getD]
theorem flow_app_right (ns : List N) (x : N) : flow (ns ++ [x]) ns.length = x.2 := by unfold flow; simp [List.getD]
theorem NodeCells.snoc {xs cs : List Value} {ns : List N} (h : NodeCells xs ns) {x : N} (hl : cs.length = 16) (h3 : cs[3]? = some (.int .i64 x.2)) (h4 : cs[4]? = some (.int .i64 x.1)) (h1 : ∀ u ∈ cs, u.oneCell' = true) : NodeCells (xs ++ cs) (ns ++ [x]) := by
  obtain ⟨a1, a2, a3⟩ := h
  refine ⟨by rw [List.length_append, List.length_append, hl, a1, List.length_singleton]; omega, fun j hj => ?_, fun u hu => ?_⟩
  · by_cases hlt : j < ns.length
    · rw [List.getElem?_append_left (by omega), List.getElem?_append_left (by omega), own_app_left hlt, flow_app_left hlt]
      exact a2 j hlt
    · have : j = ns.length := by simp at hj; omega
      subst this
      rw [List.getElem?_append_right (by omega), List.getElem?_append_right (by omega), own_app_right, flow_app_right, show ns.length * 16 + 3 - xs.length = 3 by omega, show ns.length * 16 + 4 - xs.length = 4 by omega]
      exact ⟨h3, h4⟩
  · rcases List.mem_append.1 hu with h | h
    · exact a3 u h
    · exact h1 u h
/-- Own nodes as a slice. -/
theorem own_nodes {w : World} {base n c : Nat} {A : Option Addr} {xs : List Value} {ns : List N} (h : w.ownsRow base 35 16 (.slice A n c) n xs) (hc : NodeCells xs ns) : n = ns.length ∧ n ≤ c ∧ c ≤ maxLen ∧ Nodes w w.heap.size A ns := by
  have hl := h.1
  have hl2 := hc.1
  have hn : n = ns.length := by omega
  refine ⟨hn, own_le h, own_cap' h, fun j hj => ?_⟩
  rcases h.2 with ⟨_, h0⟩ | ⟨g, cap, cur, hv, hg, hh, hcc, hm, _, ht⟩
  · omega
  · cases hv
    have hblk : Blk w g 35 cur := hh
    have cell : ∀ i u, xs[i]? = some u → w.cell? ⟨g, i, none⟩ = some u := fun i u hu => by
      rw [hblk.cell]
      rw [← ht, List.getElem?_take] at hu
      split at hu
      · simpa using hu
      · cases hu
    refine ⟨g, 0, (xs.drop (j * 16)).take 16, rfl, hblk.lt, by rw [List.length_take, List.length_drop]; omega, fun i v hv => ?_, ?_, ?_, fun u hu => hc.2.2 u (List.mem_of_mem_drop (List.mem_of_mem_take hu))⟩
    · rw [Nat.zero_add]
      rw [List.getElem?_take] at hv
      split at hv
      · rw [List.getElem?_drop] at hv; exact cell _ _ hv
      · cases hv
    · rw [List.getElem?_take_of_lt (by omega), List.getElem?_drop]; exact (hc.2.1 j hj).1
    · rw [List.getElem?_take_of_lt (by omega), List.getElem?_drop]; exact (hc.2.1 j hj).2
theorem infoNodeF : (Try.prog.info? 35).map (fun i => (i.zero, i.size, i.bytes)) = some (some (.agg #[.string ⟨#[]⟩, .string ⟨#[]⟩, .int .u8 0, .int .i64 0, .int .i64 0, .int .i64 0, .slice none 0 0, .int .i64 0, .int .i64 0, .int .u8 0, .int .i64 0, .int .i64 0, .int .u8 0, .int .i64 0, .string ⟨#[]⟩, .slice none 0 0]), 16, 184) := by kernel_rfl
/-- A node with its owner and its flow, all else nought. -/
def nodeCells (f o : Int) : List Value := [.string ⟨#[]⟩, .string ⟨#[]⟩, .int .u8 0, .int .i64 f, .int .i64 o, .int .i64 0, .slice none 0 0, .int .i64 0, .int .i64 0, .int .u8 0, .int .i64 0, .int .i64 0, .int .u8 0, .int .i64 0, .string ⟨#[]⟩, .slice none 0 0]
theorem nodeCells_one (f o : Int) : ∀ u ∈ nodeCells f o, u.oneCell' = true := by
  intro u hu
  unfold nodeCells at hu
  iterate 16 (rcases List.mem_cons.1 hu with h | hu; · subst h; rfl)
  cases hu

def egOwners : List Int := [-1, 0, 0, 1, -1, 3]
def egDeeps : List Int := [1, 2, 2, 3, 1, 4]
def eg : List N := [(-1, 0), (0, 0), (0, 0), (1, 0), (-1, 0), (3, 0)]
theorem eg_take (k : Nat) (hk : k < 6) : eg.take (k + 1) = eg.take k ++ [(egOwners.getD k 0, 0)] := by
  rw [List.take_succ_eq_append_getElem (by exact hk)]
  congr 2
  match k, hk with
  | 0, _ => rfl
  | 1, _ => rfl
  | 2, _ => rfl
  | 3, _ => rfl
  | 4, _ => rfl
  | 5, _ => rfl
theorem IntsOut.nums {w w' : World} {e : Ending} {l : List Int} {n : Nat} (h : IntsOut w l e w') (hn : l.length = n) :
    ∃ A c, e = .returned (.slice A n c) ∧ Below w.heap.size w w' ∧ Nums w' w'.heap.size A l ∧ n ≤ c ∧ c ≤ maxLen := by
  obtain ⟨A, c, rfl, hb, ho⟩ := h
  obtain ⟨h1, -, h3, h4⟩ := Nums.of_own ho
  exact ⟨A, c, by rw [hn], hb, h1, by omega, h4⟩
theorem Nums.lit {w : World} {g B : Nat} {t : TypeId} {cs : Array Value} {l : List Int} (h : Blk w g t cs) (hc : cs.toList = iv l) (hB : g < B) : Nums w B (some ⟨g, 0, none⟩) l := fun j hj => by
  refine ⟨g, 0, rfl, hB, ?_⟩
  rw [h.cell]
  simp only [Nat.zero_add, ← Array.getElem?_toList, hc]
  exact List.getElem?_eq_getElem hj
theorem Nodes.lit {w : World} {g B : Nat} {t : TypeId} {cs : Array Value} {ns : List N} (h : Blk w g t cs) (hc : NodeCells cs.toList ns) (hB : g < B) : Nodes w B (some ⟨g, 0, none⟩) ns := fun j hj => by
  have hl2 := hc.1
  have cell : ∀ i u, cs.toList[i]? = some u → w.cell? ⟨g, i, none⟩ = some u := fun i u hu => by
    rw [h.cell]
    simpa using hu
  refine ⟨g, 0, (cs.toList.drop (j * 16)).take 16, rfl, hB, by rw [List.length_take, List.length_drop]; omega, fun i v hv => ?_, ?_, ?_, fun u hu => hc.2.2 u (List.mem_of_mem_drop (List.mem_of_mem_take hu))⟩
  · rw [Nat.zero_add]
    rw [List.getElem?_take] at hv
    split at hv
    · rw [List.getElem?_drop] at hv; exact cell _ _ hv
    · cases hv
  · rw [List.getElem?_take_of_lt (by omega), List.getElem?_drop]; exact (hc.2.1 j hj).1
  · rw [List.getElem?_take_of_lt (by omega), List.getElem?_drop]; exact (hc.2.1 j hj).2
/-- Two nodes that are not right. -/
def bad : List N := [(1, 0), (-1, 0)]
theorem bad_cells : NodeCells (nodeCells 0 1 ++ nodeCells 0 (-1)) bad :=
  (NodeCells.snoc (NodeCells.snoc NodeCells.nil (x := (1, 0)) rfl rfl rfl (nodeCells_one 0 1)) (x := (-1, 0)) rfl rfl rfl (nodeCells_one 0 (-1)))
theorem bad_right : right bad = false := by decide
theorem eg0 : chain eg 0 = [] := Sc.chain_none (by decide)
theorem eg1 : chain eg 1 = [0] := by
  rw [Sc.chain_some (by decide) (by decide)]; show 0 :: chain eg 0 = [0]; rw [eg0]
theorem eg2 : chain eg 2 = [0] := by
  rw [Sc.chain_some (by decide) (by decide)]; show 0 :: chain eg 0 = [0]; rw [eg0]
theorem eg3 : chain eg 3 = [1, 0] := by
  rw [Sc.chain_some (by decide) (by decide)]; show 1 :: chain eg 1 = [1, 0]; rw [eg1]
theorem eg4 : chain eg 4 = [] := Sc.chain_none (by decide)
theorem eg5 : chain eg 5 = [3, 1, 0] := by
  rw [Sc.chain_some (by decide) (by decide)]; show 3 :: chain eg 3 = [3, 1, 0]; rw [eg3]
theorem eg_deep (k : Nat) (hk : k < 6) : ((deep eg (k : Int) : Nat) : Int) = egDeeps.getD k 0 := by
  have : place eg (k : Int) = true := by unfold place; simp [eg]; omega
  unfold deep
  rw [this, if_pos rfl, Int.toNat_natCast]
  match k, hk with
  | 0, _ => rw [eg0]; rfl
  | 1, _ => rw [eg1]; rfl
  | 2, _ => rw [eg2]; rfl
  | 3, _ => rw [eg3]; rfl
  | 4, _ => rw [eg4]; rfl
  | 5, _ => rw [eg5]; rfl
theorem eg_chain : toI (chainI eg 5) = [3, 1, 0] := by
  unfold chainI
  rw [show place eg 5 = true by decide, if_pos rfl]
  show toI (chain eg 5) = _
  rw [eg5]; rfl
theorem eg_below : toI (below eg 1) = [3, 5] := by
  unfold below
  rw [show place eg 1 = true by decide, if_pos rfl]
  have h : ∀ k : Nat, k < 6 → over eg 1 (k : Int) = (chain eg k).any fun o => decide ((o : Int) = 1) := fun k hk => by
    unfold over chainI
    rw [show place eg (k : Int) = true by unfold place; simp [eg]; omega, if_pos rfl, Int.toNat_natCast]
  show toI ((List.range 6).filter fun k => over eg 1 (k : Int)) = _
  have e : (List.range 6) = [0, 1, 2, 3, 4, 5] := rfl
  rw [e]
  simp only [List.filter_cons, List.filter_nil, h 0 (by decide), h 1 (by decide), h 2 (by decide), h 3 (by decide), h 4 (by decide), h 5 (by decide), eg0, eg1, eg2, eg3, eg4, eg5]
  rfl
theorem eg_right : right eg = true := by decide
theorem eg_own1 : toI (owned eg 0 (-1)) = [0, 4] := by decide
theorem eg_own2 : toI (owned eg 0 0) = [1, 2] := by decide

end Go.Proofs.Ytifmnoepifgaiaa.ScW

namespace Go.Proofs.Ytifmnoepifgaiaa.ScW
set_option linter.unusedVariables false
open Go.RowKit Go.Shelf Go.Proofs Go.Proofs.Ytifmnoepifgaiaa Go.Proofs.Ytifmnoepifgaiaa.Wd
open Go.Proofs.Ytifmnoepifgaiaa.Sc (N own flow rightAt right chain place chainI deep over below owned)

theorem right_snoc {ns : List N} (h : right ns = true) {x : N} (hx : x.1 = -1 ∨ (0 ≤ x.1 ∧ x.1 < ns.length ∧ x.2 = flow ns x.1.toNat)) : right (ns ++ [x]) = true := by
  unfold right
  rw [List.all_eq_true]
  intro i hi
  rw [List.mem_range, List.length_append, List.length_singleton] at hi
  unfold rightAt
  simp only [Bool.and_eq_true, Bool.or_eq_true, decide_eq_true_eq]
  by_cases hlt : i < ns.length
  · obtain ⟨h1, h2, h3⟩ := Sc.right_at h hlt
    rw [own_app_left hlt]
    refine ⟨⟨h1, h2⟩, ?_⟩
    by_cases h0 : own ns i < 0
    · exact .inl h0
    · rw [flow_app_left hlt, flow_app_left (by omega)]
      exact .inr (h3 (by omega))
  · have : i = ns.length := by omega
    subst this
    rw [own_app_right, flow_app_right]
    rcases hx with hx | ⟨h1, h2, h3⟩
    · rw [hx]; exact ⟨⟨by omega, by omega⟩, .inl (by omega)⟩
    · exact ⟨⟨by omega, h2⟩, .inr (by rw [flow_app_left (by omega)]; exact h3.symm)⟩
/-- The low byte, in what is left by another. -/
theorem mask_rem (x : Int) (k : Nat) : ∃ o : Nat, (bits BinOp.and IntKind.i64 x 255).tmod ((k : Int) + 3) = (o : Int) := by
  have h : ∃ y : Nat, bits BinOp.and IntKind.i64 x 255 = (y : Int) := by
    refine ⟨(BitVec.ofInt 64 x &&& BitVec.ofInt 64 255).toNat, ?_⟩
    have hle : (BitVec.ofInt 64 x &&& BitVec.ofInt 64 255).toNat ≤ 255 := by
      rw [BitVec.toNat_and]
      exact Nat.le_trans Nat.and_le_right (by decide)
    exact IntWalk.i64_in _ ⟨Int.le_trans (by decide) (Int.natCast_nonneg _), Int.le_trans (Int.ofNat_le.2 hle) (by decide)⟩
  obtain ⟨y, hy⟩ := h
  refine ⟨y % (k + 3), ?_⟩
  rw [hy, Int.tmod_eq_emod_of_nonneg (Int.natCast_nonneg _)]
  simp

set_option maxRecDepth 100000 in
set_option maxHeartbeats 8000000 in
theorem forest_big (A : Option Addr) (c : Nat) (l : List Int) (n : Nat) (hn : n = l.length) (hnc : n ≤ c) (hcm : c ≤ maxLen) (hbig : 60 < n) (w : World) (hI : Nums w w.heap.size A l) :
    Calls Try.prog 17 #[.slice A n c] w fun e w' => ∃ A' c' ns xs, e = .returned (.slice A' ns.length c') ∧ ns.length ≤ 60 ∧ right ns = true ∧ w'.ownsRow w.heap.size 35 16 (.slice A' ns.length c') ns.length xs ∧ NodeCells xs ns ∧ Below w.heap.size w w' := by
  unfold maxLen at hcm
  obtain ⟨i0, hi0, hz0, hz1, hz2⟩ := info_parts infoNodeF
  have HN := Lib.hid hn
  clear hn
  · have hM : (60 : Nat) ≤ n := by omega
    have hin : ¬ (n : Int) ≤ 60 := by omega
    go_enter Try.func17, Try.ntmps17
    go_wp2_with fail
    go_loopw [3, 14] (fun v i wr => ∃ (k : Nat) (ns : List N) (xs : List Value), k ≤ 60 ∧ i = .int .i64 k ∧ ns.length = k ∧ right ns = true ∧ wr.ownsRow w.heap.size 35 16 v k xs ∧ NodeCells xs ns ∧ Below w.heap.size w wr) (fun _ i _ => 60 - (intOf i).toNat)
    case atStart => exact ⟨0, [], [], Nat.zero_le _, rfl, rfl, rfl, ⟨rfl, .inl ⟨rfl, rfl⟩⟩, NodeCells.nil, Below.refl _ _⟩
    case round =>
      obtain ⟨k, ns, xs, hk, rfl, hlen, hr, hown, hNC, hB⟩ := hrel
      by_cases hlt : k < 60
      · have hkl : k < l.length := by have := HN.out; omega
        obtain ⟨b, o, rfl, hbl, hc0⟩ := hI.at_ hkl
        have hc : wr.cell? ⟨b, o + k, none⟩ = some (.int .i64 l[k]) := (hB.cell (p := ⟨b, _, none⟩) hbl).trans hc0
        generalize l[k] = x at *
        have hbs := hB.size
        have HLEN := Lib.hid hlen
        clear hc0
        obtain ⟨A1, cp1, rfl⟩ := own_form hown
        have hNN := (own_nodes hown hNC).2.2.2
        have HR := Lib.hid hr
        have HNC := Lib.hid hNC
        obtain ⟨ow, how⟩ := mask_rem x k
        generalize hfl : bits BinOp.and IntKind.i64 (x / 256) 1 = fl
        have HFL := Lib.hid hfl
        clear hr hNC hlen
        have hal0 := (hown.alloc (.cells (nodeCells fl (-1)).toArray 35)).alloc (.cells (nodeCells fl (-1)).toArray 35)
        have hBa := ((Below.refl w.heap.size wr).alloc hbs (.cells (nodeCells fl (-1)).toArray 35)).alloc (by simp; omega) (.cells (nodeCells fl (-1)).toArray 35)
        have hnew := heap_alloc_new (wr.alloc (.cells (nodeCells fl (-1)).toArray 35)) (.cells (nodeCells fl (-1)).toArray 35)
        have hone := nodeCells_one fl (-1)
        unfold nodeCells at hal0 hBa hnew
        simp only [World.size_alloc] at hnew
        by_cases ho : ow < k
        · obtain ⟨b2, o2, rfl, hb2l, hfc⟩ := hNN.flow_at (j := ow) (by rw [HLEN.out]; exact ho)
          generalize hff : flow ns ow = ff at hfc
          have HFF := Lib.hid hff
          have hne : ¬ b2 = wr.heap.size := by omega
          clear hff
          go_wp2_with fail
          have hSg : ∀ X : Obj, (wr.alloc X).drew.cell? ⟨b2, o2 + ow * 16 + 3, none⟩ = some (.int .i64 ff) := fun X => ((Below.refl wr.heap.size wr).alloc (Nat.le_refl _) X |>.cell (p := ⟨b2, _, none⟩) hb2l).trans hfc
          have HSG := Lib.hid hSg
          have hS := hSg (.cells (nodeCells fl (-1)).toArray 35)
          unfold nodeCells at hS
          clear hSg
          refine wp_region_heldG [] (fun _ W => W.cell? ⟨b2, o2 + ow * 16 + 3, none⟩ = some (.int .i64 ff)) (by kernel_rfl) ?_
          change wpAnyG _ _ _ _ _ _ 10 _ _ (World.drew _)
          refine g_take (i := 0) rfl rfl (by kernel_rfl) (by kernel_rfl) (by kernel_rfl) (by kernel_rfl) (by kernel_rfl) (fun _ _ _ h => h) hS (fun L W hL hW => by go_simp; rfl) ?_
          refine g_take (i := 1) rfl rfl (by kernel_rfl) (by kernel_rfl) (by kernel_rfl) (by kernel_rfl) (by kernel_rfl) (fun _ _ _ h => h) hS (fun L W hL hW => by go_simp; rfl) ?_
          refine g_take (i := 2) rfl rfl (by kernel_rfl) (by kernel_rfl) (by kernel_rfl) (by kernel_rfl) (by kernel_rfl) (fun _ _ _ h => h) hS (fun L W hL hW => by go_simp; rfl) ?_
          refine g_take (i := 3) rfl rfl (by kernel_rfl) (by kernel_rfl) (by kernel_rfl) (by kernel_rfl) (by kernel_rfl) (fun _ _ _ h => h) hS (fun L W hL hW => by go_simp; rfl) ?_
          refine g_take (i := 4) rfl rfl (by kernel_rfl) (by kernel_rfl) (by kernel_rfl) (by kernel_rfl) (by kernel_rfl) (fun _ _ _ h => h) hS (fun L W hL hW => by go_simp; rfl) ?_
          refine g_take (i := 5) rfl rfl (by kernel_rfl) (by kernel_rfl) (by kernel_rfl) (by kernel_rfl) (by kernel_rfl) (fun _ _ _ h => h) hS (fun L W hL hW => by go_simp; rfl) ?_
          refine g_take (i := 6) rfl rfl (by kernel_rfl) (by kernel_rfl) (by kernel_rfl) (by kernel_rfl) (by kernel_rfl) (fun _ _ _ h => h) hS (fun L W hL hW => by go_simp; rfl) ?_
          refine g_one (i := 7) rfl rfl (by kernel_rfl) fun K hK => ?_
          go_simp
          refine hK _ _ (HSG.out _) ?_
          clear hK K hS
          have hS := HSG.out (.cells (nodeCells fl ow).toArray 35)
          unfold nodeCells at hS
          refine g_take (i := 8) rfl rfl (by kernel_rfl) (by kernel_rfl) (by kernel_rfl) (by kernel_rfl) (by kernel_rfl) (fun _ _ _ h => h) hS (fun L W hL hW => by go_simp; rfl) ?_
          refine g_one (i := 9) rfl rfl (by kernel_rfl) fun K hK => ?_
          go_simp
          refine hK _ _ (HSG.out _) ?_
          clear hK K hS
          refine wpAnyG_done (by kernel_rfl) ?_ _
          have hal := ((hown.alloc (.cells (nodeCells ff ow).toArray 35)).alloc (.cells (nodeCells ff ow).toArray 35)).drew
          have hBc := (((Below.refl w.heap.size wr).alloc hbs (.cells (nodeCells ff ow).toArray 35)).alloc (by simp; omega) (.cells (nodeCells ff ow).toArray 35)).drew
          have hnew2 := heap_alloc_new (wr.alloc (.cells (nodeCells ff ow).toArray 35)) (.cells (nodeCells ff ow).toArray 35)
          have hone2 := nodeCells_one ff ow
          unfold nodeCells at hal hBc hnew2
          simp only [World.size_alloc] at hnew2
          clear hal0 hBa hnew hone HSG
          go_wp2_with (at_builtin; refine (fun (h : ∀ _ : Unit, _) => h ()) ?_)
          intro _
          refine wpList_append_lies _ rfl (.tmp 40) (.tmp 42) _ rfl w.heap.size 35 i0 _ 16 184 Try.underlying23 hi0 hz0 hz1 hz2 rfl (by omega) _ k _ rfl hal ⟨wr.heap.size + 1, 0, none⟩ 1 1 (nodeCells ff ow) rfl rfl (World.news_of_block hnew2) hone2 (by omega) (by unfold maxLen; omega) (by omega) (by rw [World.size_drew]; simp; omega) (wr.heap.size + 1 + 1) (by rw [World.size_drew]; simp) ?_
          intro g cap w2 hown2 hgrow _ _
          have hB2 := hB.trans (hBc.grown hgrow (by rw [World.size_drew]; simp; omega) (fun j hj => (own_row hal hj).1))
          have R1 : Hid (NodeCells (xs ++ nodeCells ff ow) (ns ++ [((ow : Int), ff)])) := Lib.hid (HNC.out.snoc rfl rfl rfl hone2)
          have R2 : Hid (right (ns ++ [((ow : Int), ff)]) = true) := Lib.hid (right_snoc HR.out (.inr ⟨Int.natCast_nonneg _, by rw [HLEN.out]; exact Int.ofNat_lt.2 ho, HFF.out.symm⟩))
          have R3 : Hid ((ns ++ [((ow : Int), ff)]).length = k + 1) := Lib.hid (by simp [HLEN.out])
          clear hgrow hal hnew2 hBc hone2 HNC hB hown HFL HFF hfc hNN
          go_wp2
          go_roundw
          case rel => exact ⟨k + 1, ns ++ [((ow : Int), ff)], _, by omega, by go_num, R3.out, R2.out, hown2, R1.out, hB2⟩
          case measure => simp [intOf]; omega
        · clear hNN
          go_wp2_with (at_builtin; refine (fun (h : ∀ _ : Unit, _) => h ()) ?_)
          intro _
          refine wpList_append_lies _ rfl (.tmp 40) (.tmp 42) _ rfl w.heap.size 35 i0 _ 16 184 Try.underlying23 hi0 hz0 hz1 hz2 rfl (by omega) _ k _ rfl hal0 ⟨wr.heap.size + 1, 0, none⟩ 1 1 (nodeCells fl (-1)) rfl rfl (World.news_of_block hnew) hone (by omega) (by unfold maxLen; omega) (by omega) (by simp; omega) (wr.heap.size + 1 + 1) (by simp) ?_
          intro g cap w2 hown2 hgrow _ _
          have hB2 := hB.trans (hBa.grown hgrow (by simp; omega) (fun j hj => (own_row hal0 hj).1))
          have R1 : Hid (NodeCells (xs ++ nodeCells fl (-1)) (ns ++ [(-1, fl)])) := Lib.hid (HNC.out.snoc rfl rfl rfl hone)
          have R2 : Hid (right (ns ++ [(-1, fl)]) = true) := Lib.hid (right_snoc HR.out (.inl rfl))
          have R3 : Hid ((ns ++ [((-1 : Int), fl)]).length = k + 1) := Lib.hid (by simp [HLEN.out])
          clear hgrow hal0 hnew hBa hone HNC hB hown HFL
          go_wp2
          go_roundw
          case rel => exact ⟨k + 1, ns ++ [(-1, fl)], _, by omega, by go_num, R3.out, R2.out, hown2, R1.out, hB2⟩
          case measure => simp [intOf]; omega
      · obtain rfl : k = 60 := by omega
        try simp only [Int.cast_ofNat_Int]
        obtain ⟨A1, cp1, rfl⟩ := own_form hown
        go_wp2_with fail
        go_ret
        exact ⟨A1, cp1, ns, xs, by rw [hlen]; rfl, by omega, hr, by rw [hlen]; exact hown, hNC, hB⟩

set_option maxRecDepth 100000 in
set_option maxHeartbeats 8000000 in
theorem forest_small (A : Option Addr) (c : Nat) (l : List Int) (n : Nat) (hn : n = l.length) (hnc : n ≤ c) (hcm : c ≤ maxLen) (hsmall : n ≤ 60) (w : World) (hI : Nums w w.heap.size A l) :
    Calls Try.prog 17 #[.slice A n c] w fun e w' => ∃ A' c' ns xs, e = .returned (.slice A' ns.length c') ∧ ns.length ≤ 60 ∧ right ns = true ∧ w'.ownsRow w.heap.size 35 16 (.slice A' ns.length c') ns.length xs ∧ NodeCells xs ns ∧ Below w.heap.size w w' := by
  unfold maxLen at hcm
  obtain ⟨i0, hi0, hz0, hz1, hz2⟩ := info_parts infoNodeF
  have HN := Lib.hid hn
  clear hn
  · go_enter Try.func17, Try.ntmps17
    have hin : (n : Int) ≤ 60 := by omega
    go_wp2_with fail
    go_loopw [3, 14] (fun v i wr => ∃ (k : Nat) (ns : List N) (xs : List Value), k ≤ n ∧ i = .int .i64 k ∧ ns.length = k ∧ right ns = true ∧ wr.ownsRow w.heap.size 35 16 v k xs ∧ NodeCells xs ns ∧ Below w.heap.size w wr) (fun _ i _ => n - (intOf i).toNat)
    case atStart => exact ⟨0, [], [], Nat.zero_le _, rfl, rfl, rfl, ⟨rfl, .inl ⟨rfl, rfl⟩⟩, NodeCells.nil, Below.refl _ _⟩
    case round =>
      obtain ⟨k, ns, xs, hk, rfl, hlen, hr, hown, hNC, hB⟩ := hrel
      by_cases hlt : k < n
      · have hkl : k < l.length := by have := HN.out; omega
        obtain ⟨b, o, rfl, hbl, hc0⟩ := hI.at_ hkl
        have hc : wr.cell? ⟨b, o + k, none⟩ = some (.int .i64 l[k]) := (hB.cell (p := ⟨b, _, none⟩) hbl).trans hc0
        generalize l[k] = x at *
        have hbs := hB.size
        have HLEN := Lib.hid hlen
        clear hc0
        obtain ⟨A1, cp1, rfl⟩ := own_form hown
        have hNN := (own_nodes hown hNC).2.2.2
        have HR := Lib.hid hr
        have HNC := Lib.hid hNC
        obtain ⟨ow, how⟩ := mask_rem x k
        generalize hfl : bits BinOp.and IntKind.i64 (x / 256) 1 = fl
        have HFL := Lib.hid hfl
        clear hr hNC hlen
        have hal0 := (hown.alloc (.cells (nodeCells fl (-1)).toArray 35)).alloc (.cells (nodeCells fl (-1)).toArray 35)
        have hBa := ((Below.refl w.heap.size wr).alloc hbs (.cells (nodeCells fl (-1)).toArray 35)).alloc (by simp; omega) (.cells (nodeCells fl (-1)).toArray 35)
        have hnew := heap_alloc_new (wr.alloc (.cells (nodeCells fl (-1)).toArray 35)) (.cells (nodeCells fl (-1)).toArray 35)
        have hone := nodeCells_one fl (-1)
        unfold nodeCells at hal0 hBa hnew
        simp only [World.size_alloc] at hnew
        by_cases ho : ow < k
        · obtain ⟨b2, o2, rfl, hb2l, hfc⟩ := hNN.flow_at (j := ow) (by rw [HLEN.out]; exact ho)
          generalize hff : flow ns ow = ff at hfc
          have HFF := Lib.hid hff
          have hne : ¬ b2 = wr.heap.size := by omega
          clear hff
          go_wp2_with fail
          have hSg : ∀ X : Obj, (wr.alloc X).drew.cell? ⟨b2, o2 + ow * 16 + 3, none⟩ = some (.int .i64 ff) := fun X => ((Below.refl wr.heap.size wr).alloc (Nat.le_refl _) X |>.cell (p := ⟨b2, _, none⟩) hb2l).trans hfc
          have HSG := Lib.hid hSg
          have hS := hSg (.cells (nodeCells fl (-1)).toArray 35)
          unfold nodeCells at hS
          clear hSg
          refine wp_region_heldG [] (fun _ W => W.cell? ⟨b2, o2 + ow * 16 + 3, none⟩ = some (.int .i64 ff)) (by kernel_rfl) ?_
          change wpAnyG _ _ _ _ _ _ 10 _ _ (World.drew _)
          refine g_take (i := 0) rfl rfl (by kernel_rfl) (by kernel_rfl) (by kernel_rfl) (by kernel_rfl) (by kernel_rfl) (fun _ _ _ h => h) hS (fun L W hL hW => by go_simp; rfl) ?_
          refine g_take (i := 1) rfl rfl (by kernel_rfl) (by kernel_rfl) (by kernel_rfl) (by kernel_rfl) (by kernel_rfl) (fun _ _ _ h => h) hS (fun L W hL hW => by go_simp; rfl) ?_
          refine g_take (i := 2) rfl rfl (by kernel_rfl) (by kernel_rfl) (by kernel_rfl) (by kernel_rfl) (by kernel_rfl) (fun _ _ _ h => h) hS (fun L W hL hW => by go_simp; rfl) ?_
          refine g_take (i := 3) rfl rfl (by kernel_rfl) (by kernel_rfl) (by kernel_rfl) (by kernel_rfl) (by kernel_rfl) (fun _ _ _ h => h) hS (fun L W hL hW => by go_simp; rfl) ?_
          refine g_take (i := 4) rfl rfl (by kernel_rfl) (by kernel_rfl) (by kernel_rfl) (by kernel_rfl) (by kernel_rfl) (fun _ _ _ h => h) hS (fun L W hL hW => by go_simp; rfl) ?_
          refine g_take (i := 5) rfl rfl (by kernel_rfl) (by kernel_rfl) (by kernel_rfl) (by kernel_rfl) (by kernel_rfl) (fun _ _ _ h => h) hS (fun L W hL hW => by go_simp; rfl) ?_
          refine g_take (i := 6) rfl rfl (by kernel_rfl) (by kernel_rfl) (by kernel_rfl) (by kernel_rfl) (by kernel_rfl) (fun _ _ _ h => h) hS (fun L W hL hW => by go_simp; rfl) ?_
          refine g_one (i := 7) rfl rfl (by kernel_rfl) fun K hK => ?_
          go_simp
          refine hK _ _ (HSG.out _) ?_
          clear hK K hS
          have hS := HSG.out (.cells (nodeCells fl ow).toArray 35)
          unfold nodeCells at hS
          refine g_take (i := 8) rfl rfl (by kernel_rfl) (by kernel_rfl) (by kernel_rfl) (by kernel_rfl) (by kernel_rfl) (fun _ _ _ h => h) hS (fun L W hL hW => by go_simp; rfl) ?_
          refine g_one (i := 9) rfl rfl (by kernel_rfl) fun K hK => ?_
          go_simp
          refine hK _ _ (HSG.out _) ?_
          clear hK K hS
          refine wpAnyG_done (by kernel_rfl) ?_ _
          have hal := ((hown.alloc (.cells (nodeCells ff ow).toArray 35)).alloc (.cells (nodeCells ff ow).toArray 35)).drew
          have hBc := (((Below.refl w.heap.size wr).alloc hbs (.cells (nodeCells ff ow).toArray 35)).alloc (by simp; omega) (.cells (nodeCells ff ow).toArray 35)).drew
          have hnew2 := heap_alloc_new (wr.alloc (.cells (nodeCells ff ow).toArray 35)) (.cells (nodeCells ff ow).toArray 35)
          have hone2 := nodeCells_one ff ow
          unfold nodeCells at hal hBc hnew2
          simp only [World.size_alloc] at hnew2
          clear hal0 hBa hnew hone HSG
          go_wp2_with (at_builtin; refine (fun (h : ∀ _ : Unit, _) => h ()) ?_)
          intro _
          refine wpList_append_lies _ rfl (.tmp 40) (.tmp 42) _ rfl w.heap.size 35 i0 _ 16 184 Try.underlying23 hi0 hz0 hz1 hz2 rfl (by omega) _ k _ rfl hal ⟨wr.heap.size + 1, 0, none⟩ 1 1 (nodeCells ff ow) rfl rfl (World.news_of_block hnew2) hone2 (by omega) (by unfold maxLen; omega) (by omega) (by rw [World.size_drew]; simp; omega) (wr.heap.size + 1 + 1) (by rw [World.size_drew]; simp) ?_
          intro g cap w2 hown2 hgrow _ _
          have hB2 := hB.trans (hBc.grown hgrow (by rw [World.size_drew]; simp; omega) (fun j hj => (own_row hal hj).1))
          have R1 : Hid (NodeCells (xs ++ nodeCells ff ow) (ns ++ [((ow : Int), ff)])) := Lib.hid (HNC.out.snoc rfl rfl rfl hone2)
          have R2 : Hid (right (ns ++ [((ow : Int), ff)]) = true) := Lib.hid (right_snoc HR.out (.inr ⟨Int.natCast_nonneg _, by rw [HLEN.out]; exact Int.ofNat_lt.2 ho, HFF.out.symm⟩))
          have R3 : Hid ((ns ++ [((ow : Int), ff)]).length = k + 1) := Lib.hid (by simp [HLEN.out])
          clear hgrow hal hnew2 hBc hone2 HNC hB hown HFL HFF hfc hNN
          go_wp2
          go_roundw
          case rel => exact ⟨k + 1, ns ++ [((ow : Int), ff)], _, by omega, by go_num, R3.out, R2.out, hown2, R1.out, hB2⟩
          case measure => simp [intOf]; omega
        · clear hNN
          go_wp2_with (at_builtin; refine (fun (h : ∀ _ : Unit, _) => h ()) ?_)
          intro _
          refine wpList_append_lies _ rfl (.tmp 40) (.tmp 42) _ rfl w.heap.size 35 i0 _ 16 184 Try.underlying23 hi0 hz0 hz1 hz2 rfl (by omega) _ k _ rfl hal0 ⟨wr.heap.size + 1, 0, none⟩ 1 1 (nodeCells fl (-1)) rfl rfl (World.news_of_block hnew) hone (by omega) (by unfold maxLen; omega) (by omega) (by simp; omega) (wr.heap.size + 1 + 1) (by simp) ?_
          intro g cap w2 hown2 hgrow _ _
          have hB2 := hB.trans (hBa.grown hgrow (by simp; omega) (fun j hj => (own_row hal0 hj).1))
          have R1 : Hid (NodeCells (xs ++ nodeCells fl (-1)) (ns ++ [(-1, fl)])) := Lib.hid (HNC.out.snoc rfl rfl rfl hone)
          have R2 : Hid (right (ns ++ [(-1, fl)]) = true) := Lib.hid (right_snoc HR.out (.inl rfl))
          have R3 : Hid ((ns ++ [((-1 : Int), fl)]).length = k + 1) := Lib.hid (by simp [HLEN.out])
          clear hgrow hal0 hnew hBa hone HNC hB hown HFL
          go_wp2
          go_roundw
          case rel => exact ⟨k + 1, ns ++ [(-1, fl)], _, by omega, by go_num, R3.out, R2.out, hown2, R1.out, hB2⟩
          case measure => simp [intOf]; omega
      · obtain rfl : k = n := by omega
        try simp only [Int.cast_ofNat_Int]
        obtain ⟨A1, cp1, rfl⟩ := own_form hown
        go_wp2_with fail
        go_ret
        exact ⟨A1, cp1, ns, xs, by rw [hlen]; rfl, by omega, hr, by rw [hlen]; exact hown, hNC, hB⟩

theorem forest_any (A : Option Addr) (c : Nat) (l : List Int) (n : Nat) (hn : n = l.length) (hnc : n ≤ c) (hcm : c ≤ maxLen) (w : World) (hI : Nums w w.heap.size A l) :
    Calls Try.prog 17 #[.slice A n c] w fun e w' => ∃ A' c' ns xs, e = .returned (.slice A' ns.length c') ∧ ns.length ≤ 60 ∧ right ns = true ∧ w'.ownsRow w.heap.size 35 16 (.slice A' ns.length c') ns.length xs ∧ NodeCells xs ns ∧ Below w.heap.size w w' := by
  rcases Nat.lt_or_ge 60 n with h | h
  · exact forest_big A c l n hn hnc hcm h w hI
  · exact forest_small A c l n hn hnc hcm h w hI
end Go.Proofs.Ytifmnoepifgaiaa.ScW
