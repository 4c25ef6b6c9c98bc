/-
  The walk of table.
-/
import Derived.Test.YtifmnoepifgaiaaNameMap
import Derived.Maps.OwnOps
import Derived.Lib.Strings
namespace Go.Proofs.Ytifmnoepifgaiaa.NmW
set_option linter.unusedVariables false
open Go Go.RowKit Go.Maps Go.Proofs Go.Proofs.Ytifmnoepifgaiaa Go.Proofs.Ytifmnoepifgaiaa.Wd Go.Proofs.Ytifmnoepifgaiaa.ScW Go.Proofs.Ytifmnoepifgaiaa.Nm
open Go.Proofs.Ytifmnoepifgaiaa.Sc (N own flow rightAt right chain place chainI deep over below owned)

/-- Nodes, and their names. -/
def NNodes (w : World) (B : Nat) (A : Option Addr) (ns : List N) (ss : List Str) : Prop :=
  Nodes w B A ns ∧ ∀ j, j < ns.length → ∃ b off, A = some ⟨b, off, none⟩ ∧ b < B ∧ w.cell? ⟨b, off + j * 16 + 1, none⟩ = some (.string (nm ss j))
section
variable {w w' : World} {B B' : Nat} {A : Option Addr} {ns : List N} {ss : List Str}
theorem NNodes.nil : NNodes w B A [] ss := ⟨Nodes.nil, fun _ h => absurd h (Nat.not_lt_zero _)⟩
theorem NNodes.keep (h : NNodes w B A ns ss) (hk : ∀ p : Addr, p.block < B → w'.cell? p = w.cell? p) : NNodes w' B A ns ss := ⟨h.1.keep hk, fun j hj => by
  obtain ⟨b, off, e, hb, hc⟩ := h.2 j hj
  exact ⟨b, off, e, hb, (hk ⟨b, _, none⟩ hb).trans hc⟩⟩
theorem NNodes.more (h : NNodes w B A ns ss) (hB : B ≤ B') : NNodes w B' A ns ss := ⟨h.1.more hB, fun j hj => by
  obtain ⟨b, off, e, hb, hc⟩ := h.2 j hj
  exact ⟨b, off, e, by omega, hc⟩⟩
theorem NNodes.below (h : NNodes w B A ns ss) (hb : Below B w w') : NNodes w' B A ns ss := h.keep fun _ hp => hb.cell hp
theorem NNodes.grow (h : NNodes w w.heap.size A ns ss) (hb : Below w.heap.size w w') : NNodes w' w'.heap.size A ns ss := (h.below hb).more hb.size
theorem NNodes.drew (h : NNodes w B A ns ss) : NNodes w.drew B A ns ss := h
end
/-- A look-up at the operation. -/
theorem wpList_lookup_ks (w : World) {ops : Array Oper} {rest : List Oper} {o : Oper} {a : Act} {Q : Exit → Act → World → Prop}
    (hg : o.guard = none) (m x : Operand) (hop : o.op = Op.lookup 52 m x true)
    (mb n : Nat) (g : Key → Option Nat) (hm : a.eval m = .map (some mb)) (hown : KS w mb n g) (f ow : Int) (s : ByteArray) (hx : a.eval x = .agg #[.int .i64 f, .int .i64 ow, .string s]) (hk : KOk (f, ow, s)) (r : Option Nat) (hr : g (f, ow, s) = r)
    (hK : wpList Try.prog ops Q rest (a.put o.dst (.tuple #[.int .i64 ((r.getD 0 : Nat) : Int), .bool r.isSome])) w) :
    wpList Try.prog ops Q (o :: rest) a w := by
  refine wpList_plain hg fun K' hK' => ?_
  have hrun := hown.look (f, ow, s) hk
  rw [hr] at hrun
  unfold Oper.wp
  simp [execOp, hop, hm, hx, hrun, Result.andThen]
  exact hK' _ _ hK
theorem none_isEmpty : (ByteArray.toList none_).isEmpty = true := by rw [Lib.toList_data]; rfl
theorem isEmpty_iff (s : ByteArray) : (ByteArray.toList s).isEmpty = false ↔ s ≠ none_ := by
  rw [Lib.toList_data]
  obtain ⟨⟨l⟩⟩ := s
  unfold none_
  cases l with
  | nil => simp
  | cons a l => simp
theorem KS.mono {W : World} {mb n n' : Nat} {g : Key → Option Nat} (h : KS W mb n g) (hn : n ≤ n') : KS W mb n' g := by
  obtain ⟨D, h1, h2⟩ := h
  exact ⟨D, h1.mono hn, h2⟩
/-- A place put at the operation. -/
theorem wpList_update_ks (w : World) {ops : Array Oper} {rest : List Oper} {o : Oper} {a : Act} {Q : Exit → Act → World → Prop}
    (hg : o.guard = none) (m x y : Operand) (hop : o.op = Op.mapUpdate 52 m x y)
    (mb n : Nat) (g : Key → Option Nat) (hm : a.eval m = .map (some mb)) (hown : KS w mb n g) (hn : n < maxLen) (f ow : Int) (s : ByteArray) (hx : a.eval x = .agg #[.int .i64 f, .int .i64 ow, .string s]) (hk : KOk (f, ow, s)) (v : Nat) (hy : a.eval y = .int .i64 (v : Int)) (hv : v ≤ 1000000000)
    (hK : ∀ wu, KS wu mb (n + 1) (fun z => if z = (f, ow, s) then some v else g z) → w.grownBy wu (some mb) → wpList Try.prog ops Q rest (a.put o.dst undef) wu) :
    wpList Try.prog ops Q (o :: rest) a w := by
  obtain ⟨D, h1, h2⟩ := hown
  obtain ⟨l, hl⟩ := kkey (f, ow, s) hk
  exact wpList_mapUpdate_own w hg m x y _ hop 56 3 klaw Try.underlying52 _ mb n D hm h1 hn _ _ l hx hy hl _ [] (plainElem_int Try.underlying3 (WalkArith.wf_i64 (by omega))) fun wu r1 r2 => hK wu ⟨_, r1, h2.put hl v⟩ r2
set_option maxRecDepth 100000 in
set_option maxHeartbeats 8000000 in
theorem table_any (A : Option Addr) (c : Nat) (ns : List N) (ss : List Str) (n : Nat) (hn : n = ns.length) (hnc : n ≤ c) (hcm : c ≤ maxLen) (hnb : n ≤ 1000000000) (hg : ∀ k, k < n → KOk (key ns ss k)) (w : World) (hI : NNodes w w.heap.size A ns ss) :
    Calls Try.prog 24 #[.slice A n c] w fun e w' => ∃ mb, e = .returned (.tuple #[.map (some mb), .bool (twiceTo ns ss n)]) ∧ w.heap.size ≤ mb ∧ mb < w'.heap.size ∧ KS w' mb n (lookN ns ss n) ∧ Below w.heap.size w w' := by
  unfold maxLen at hcm
  have HN := Lib.hid hn
  have HG := Lib.hid hg
  have HI := Lib.hid hI
  clear hn hg hI
  have hmm := @run_makeMap Try.prog
  go_enter Try.func24, Try.ntmps24
  go_wp2
  have HM0 : Hid (KS (w.alloc (.map #[] 0)) w.heap.size 0 (lookN ns ss 0)) := Lib.hid ⟨.map [], World.ownsMap_made (H := Unit) w Try.prog 56 (plainElem Try.prog 3), KMap.nil⟩
  have HB0 : Hid (Below w.heap.size w (w.alloc (.map #[] 0))) := Lib.hid ((Below.refl _ w).alloc (Nat.le_refl _) _)
  generalize hmb : w.heap.size = mb at *
  clear hmm
  go_loopw [5, 14] (fun t i wr => ∃ k : Nat, k ≤ n ∧ i = .int .i64 k ∧ t = .bool (twiceTo ns ss k) ∧ Hid (KS wr mb k (lookN ns ss k) ∧ Below mb w wr ∧ mb < wr.heap.size)) (fun _ i _ => n - (intOf i).toNat)
  case atStart => exact ⟨0, Nat.zero_le _, rfl, rfl, Lib.hid ⟨HM0.out, HB0.out, HM0.out.lt⟩⟩
  case round =>
    obtain ⟨k, hk, rfl, rfl, HS⟩ := hrel
    by_cases hlt : k < n
    · have hkr : k < ns.length := by have := HN.out; omega
      obtain ⟨b1, o1, cs, rfl, hb1, hcl, hra, h3, h4, h1⟩ := HI.out.1 k hkr
      obtain ⟨b2, o2, hA2, hb2, hc2⟩ := HI.out.2 k hkr
      have hA3 : b1 = b2 ∧ o1 = o2 := by
        simp only [Option.some.injEq, Addr.mk.injEq, and_true] at hA2
        exact hA2
      obtain ⟨rfl, rfl⟩ := hA3
      have h2 : cs[1]? = some (.string (nm ss k)) := by
        have hl1 : 1 < cs.length := by omega
        have := hra 1 cs[1] (by simp [hl1])
        rw [hc2] at this
        rw [List.getElem?_eq_getElem hl1, this]
      have hr : wr.rangeAt b1 (o1 + k * 16) cs := fun j v hv => (HS.out.2.1.cell (p := ⟨b1, _, none⟩) hb1).trans (hra j v hv)
      have HR := Lib.hid hr
      have hcz : cs.toArray.size = 16 := by simpa using hcl
      have HCZ := Lib.hid hcz
      have HCL := Lib.hid hcl
      clear hra hr hcz hcl hA2 hb2 hc2
      have h1a : ∀ u ∈ cs.toArray.toList, u.oneCell' = true := fun u hu => h1 u (by simpa using hu)
      have hbz := below_setRow ((Below.refl _ wr).alloc (Nat.le_refl _) (.cells #[.string ⟨#[]⟩, .string ⟨#[]⟩, .int .u8 0, .int .i64 0, .int .i64 0, .int .i64 0, .slice none 0 0, .int .i64 0, .int .i64 0, .int .u8 0, .int .i64 0, .int .i64 0, .int .u8 0, .int .i64 0, .string ⟨#[]⟩, .slice none 0 0] 35)) (Nat.le_refl _) cs.toArray
      have bx := (Blk.new_ wr 35 #[.string ⟨#[]⟩, .string ⟨#[]⟩, .int .u8 0, .int .i64 0, .int .i64 0, .int .i64 0, .slice none 0 0, .int .i64 0, .int .i64 0, .int .u8 0, .int .i64 0, .int .i64 0, .int .u8 0, .int .i64 0, .string ⟨#[]⟩, .slice none 0 0] rfl).row cs.toArray
      have hf := Blk.at_ (v := .int .i64 (flow ns k)) bx 3 (by simpa using h3)
      have ho := Blk.at_ (v := .int .i64 (own ns k)) bx 4 (by simpa using h4)
      have hs := Blk.at_ (v := .string (nm ss k)) bx 1 (by simpa using h2)
      have HBX := Lib.hid bx
      have HBZ := Lib.hid hbz
      have hko : KOk (flow ns k, own ns k, nm ss k) := HG.out k hlt
      have HKO := Lib.hid hko
      clear h3 h4 h2 bx hbz hko hb1
      cases hlk : lookN ns ss k (key ns ss k) with
      | some v =>
        have hne := (lookN_iff hlk).2.1
        obtain ⟨v1, v2, v3, v4⟩ := lookN_iff hlk
        have hne' : nm ss k ≠ none_ := by
          intro e
          unfold key at hlk
          rw [e, lookN_none] at hlk
          cases hlk
        have HTW : Hid (twiceTo ns ss (k + 1) = true) := Lib.hid (by rw [twice_succ, hlk]; simp)
        have HLK : Hid (∀ x, lookN ns ss (k + 1) x = lookN ns ss k x) := Lib.hid (fun x => by
          rw [lookN_succ]
          by_cases hx : key ns ss k = x
          · subst hx; rw [hlk]; rfl
          · rw [if_neg (fun h => hx h.2)]; simp)
        have HV : Hid (lookN ns ss k (flow ns k, own ns k, nm ss k) = some v) := Lib.hid hlk
        clear hne v1 v2 v3 v4 hlk
        generalize hnx : nm ss k = sx at *
        have hsx := (isEmpty_iff sx).2 hne'
        clear hne'
        by_cases htw : twiceTo ns ss k = true
        · go_wp2_with (first | (refine wpList_load_mid rfl 35 (.tmp 17) rfl b1 (o1 + k * 16) rfl cs _ HR.out Try.underlying35 rfl (by rw [infoNode, HCL.out]) ?_) | (refine wpList_put_row rfl rfl 35 (.tmp 7) (.tmp 18) rfl wr.heap.size rfl 35 _ cs.toArray rfl (Blk.new_ _ _ _ rfl) (by rw [infoNode, HCZ.out]) (by rw [HCZ.out]; rfl) h1a ?_) | (at_lookup; refine wpList_lookup_ks _ rfl (.tmp 27) (.tmp 28) rfl mb k _ rfl (HS.out.1.below (HBZ.out.alloc HBZ.out.size _) HS.out.2.2) (flow ns k) (own ns k) sx rfl HKO.out (some v) HV.out ?_) | fail)
          go_roundw
          case rel => exact ⟨k + 1, by omega, by go_num, by rw [HTW.out], Lib.hid ⟨((HS.out.1.below (HBZ.out.alloc HBZ.out.size _) HS.out.2.2).congr (fun x => (HLK.out x).symm)).mono (Nat.le_succ k), HS.out.2.1.trans ((HBZ.out.alloc HBZ.out.size _).mono (Nat.le_of_lt HS.out.2.2)), Nat.lt_of_lt_of_le HS.out.2.2 (HBZ.out.alloc HBZ.out.size _).size⟩⟩
          case measure => simp [intOf]; omega
        · have htw : twiceTo ns ss k = false := by simpa using htw
          go_wp2_with (first | (refine wpList_load_mid rfl 35 (.tmp 17) rfl b1 (o1 + k * 16) rfl cs _ HR.out Try.underlying35 rfl (by rw [infoNode, HCL.out]) ?_) | (refine wpList_put_row rfl rfl 35 (.tmp 7) (.tmp 18) rfl wr.heap.size rfl 35 _ cs.toArray rfl (Blk.new_ _ _ _ rfl) (by rw [infoNode, HCZ.out]) (by rw [HCZ.out]; rfl) h1a ?_) | (at_lookup; refine wpList_lookup_ks _ rfl (.tmp 27) (.tmp 28) rfl mb k _ rfl (HS.out.1.below (HBZ.out.alloc HBZ.out.size _) HS.out.2.2) (flow ns k) (own ns k) sx rfl HKO.out (some v) HV.out ?_) | fail)
          go_roundw
          case rel => exact ⟨k + 1, by omega, by go_num, by rw [HTW.out], Lib.hid ⟨((HS.out.1.below (HBZ.out.alloc HBZ.out.size _) HS.out.2.2).congr (fun x => (HLK.out x).symm)).mono (Nat.le_succ k), HS.out.2.1.trans ((HBZ.out.alloc HBZ.out.size _).mono (Nat.le_of_lt HS.out.2.2)), Nat.lt_of_lt_of_le HS.out.2.2 (HBZ.out.alloc HBZ.out.size _).size⟩⟩
          case measure => simp [intOf]; omega
      | none =>
        by_cases hnn : nm ss k = none_
        · have HTW : Hid (twiceTo ns ss (k + 1) = twiceTo ns ss k) := Lib.hid (by rw [twice_succ, hlk]; simp)
          have HLK : Hid (∀ x, lookN ns ss (k + 1) x = lookN ns ss k x) := Lib.hid (fun x => by
            rw [lookN_succ, if_neg (fun h => h.1 hnn)]; simp)
          have HV : Hid (lookN ns ss k (flow ns k, own ns k, nm ss k) = none) := Lib.hid hlk
          clear hlk
          generalize hnx : nm ss k = sx at *
          have hsx : (ByteArray.toList sx).isEmpty = true := by rw [hnn, none_isEmpty]
          clear hnn
          by_cases htw : twiceTo ns ss k = true
          · go_wp2_with (first | (refine wpList_load_mid rfl 35 (.tmp 17) rfl b1 (o1 + k * 16) rfl cs _ HR.out Try.underlying35 rfl (by rw [infoNode, HCL.out]) ?_) | (refine wpList_put_row rfl rfl 35 (.tmp 7) (.tmp 18) rfl wr.heap.size rfl 35 _ cs.toArray rfl (Blk.new_ _ _ _ rfl) (by rw [infoNode, HCZ.out]) (by rw [HCZ.out]; rfl) h1a ?_) | (at_lookup; refine wpList_lookup_ks _ rfl (.tmp 27) (.tmp 28) rfl mb k _ rfl (HS.out.1.below (HBZ.out.alloc HBZ.out.size _) HS.out.2.2) (flow ns k) (own ns k) sx rfl HKO.out none HV.out ?_) | fail)
            go_roundw
            case rel => exact ⟨k + 1, by omega, by go_num, by rw [HTW.out]; rw [htw], Lib.hid ⟨((HS.out.1.below (HBZ.out.alloc HBZ.out.size _) HS.out.2.2).congr (fun x => (HLK.out x).symm)).mono (Nat.le_succ k), HS.out.2.1.trans ((HBZ.out.alloc HBZ.out.size _).mono (Nat.le_of_lt HS.out.2.2)), Nat.lt_of_lt_of_le HS.out.2.2 (HBZ.out.alloc HBZ.out.size _).size⟩⟩
            case measure => simp [intOf]; omega
          · have htw : twiceTo ns ss k = false := by simpa using htw
            go_wp2_with (first | (refine wpList_load_mid rfl 35 (.tmp 17) rfl b1 (o1 + k * 16) rfl cs _ HR.out Try.underlying35 rfl (by rw [infoNode, HCL.out]) ?_) | (refine wpList_put_row rfl rfl 35 (.tmp 7) (.tmp 18) rfl wr.heap.size rfl 35 _ cs.toArray rfl (Blk.new_ _ _ _ rfl) (by rw [infoNode, HCZ.out]) (by rw [HCZ.out]; rfl) h1a ?_) | (at_lookup; refine wpList_lookup_ks _ rfl (.tmp 27) (.tmp 28) rfl mb k _ rfl (HS.out.1.below (HBZ.out.alloc HBZ.out.size _) HS.out.2.2) (flow ns k) (own ns k) sx rfl HKO.out none HV.out ?_) | fail)
            go_roundw
            case rel => exact ⟨k + 1, by omega, by go_num, by rw [HTW.out]; rw [htw], Lib.hid ⟨((HS.out.1.below (HBZ.out.alloc HBZ.out.size _) HS.out.2.2).congr (fun x => (HLK.out x).symm)).mono (Nat.le_succ k), HS.out.2.1.trans ((HBZ.out.alloc HBZ.out.size _).mono (Nat.le_of_lt HS.out.2.2)), Nat.lt_of_lt_of_le HS.out.2.2 (HBZ.out.alloc HBZ.out.size _).size⟩⟩
            case measure => simp [intOf]; omega
        · have HTW : Hid (twiceTo ns ss (k + 1) = twiceTo ns ss k) := Lib.hid (by rw [twice_succ, hlk]; simp)
          have HLK : Hid (∀ x, lookN ns ss (k + 1) x = if x = key ns ss k then some k else lookN ns ss k x) := Lib.hid (fun x => by
            rw [lookN_succ]
            by_cases hx : key ns ss k = x
            · subst hx; rw [hlk, if_pos ⟨hnn, rfl⟩]; simp
            · rw [if_neg (fun h => hx h.2), if_neg (fun h => hx h.symm)]; simp)
          have HV : Hid (lookN ns ss k (flow ns k, own ns k, nm ss k) = none) := Lib.hid hlk
          clear hlk
          generalize hnx : nm ss k = sx at *
          have hsx := (isEmpty_iff sx).2 hnn
          clear hnn
          go_wp2_with (first | (refine wpList_load_mid rfl 35 (.tmp 17) rfl b1 (o1 + k * 16) rfl cs _ HR.out Try.underlying35 rfl (by rw [infoNode, HCL.out]) ?_) | (refine wpList_put_row rfl rfl 35 (.tmp 7) (.tmp 18) rfl wr.heap.size rfl 35 _ cs.toArray rfl (Blk.new_ _ _ _ rfl) (by rw [infoNode, HCZ.out]) (by rw [HCZ.out]; rfl) h1a ?_) | (at_lookup; refine wpList_lookup_ks _ rfl (.tmp 27) (.tmp 28) rfl mb k _ rfl (HS.out.1.below (HBZ.out.alloc HBZ.out.size _) HS.out.2.2) (flow ns k) (own ns k) sx rfl HKO.out none HV.out ?_) | (at_mapUpdate; refine wpList_update_ks _ rfl _ _ _ rfl mb k _ rfl (HS.out.1.below (HBZ.out.alloc HBZ.out.size _) HS.out.2.2) (by unfold maxLen; omega) (flow ns k) (own ns k) sx rfl HKO.out k rfl (by omega) ?_; intro wu hku hgu) | fail)
          have HNN : Hid (KS wu mb (k + 1) (lookN ns ss (k + 1)) ∧ Below mb w wu ∧ mb < wu.heap.size) := Lib.hid (by
            refine ⟨hku.congr (fun x => ?_), (HS.out.2.1.trans ((HBZ.out.alloc HBZ.out.size _).mono (Nat.le_of_lt HS.out.2.2))).grown hgu (Nat.le_of_lt (Nat.lt_of_lt_of_le HS.out.2.2 (HBZ.out.alloc HBZ.out.size _).size)) (fun j hj => by cases hj; exact Nat.le_refl _), hku.lt⟩
            rw [HLK.out]
            unfold key
            rw [hnx])
          clear hku hgu
          go_wp2_with fail
          go_roundw
          case rel => exact ⟨k + 1, by omega, by go_num, by rw [HTW.out], HNN⟩
          case measure => simp [intOf]; omega
    · obtain rfl : k = n := by omega
      have HSo := Lib.hid HS.out
      clear HS
      go_wp2
      go_ret2
      exact ⟨mb, rfl, by omega, HSo.out.2.2, HSo.out.1, by rw [hmb]; exact HSo.out.2.1⟩
end Go.Proofs.Ytifmnoepifgaiaa.NmW
