/-
  A case of a round of GraphTells: P, C, S.
-/
import Derived.Test.YtclbpohhmaojcaaGraphTellsA
namespace Go.Proofs.Ytclbpohhmaojcaa.GrW
set_option linter.unusedVariables false
open Go Go.RowKit Go.Proofs Go.Proofs.Ytclbpohhmaojcaa Go.Proofs.Ytclbpohhmaojcaa.Wd
open Go.Proofs.Ytclbpohhmaojcaa.Gr (OK ofL IsR outs intos ev edgesTo putL cutL)

set_option maxRecDepth 1000000 in
set_option maxHeartbeats 16000000 in
theorem round_P {n0 m : Nat} {A : Option Addr} {c : Nat} {l : List (Nat × Int × Int)} {Aa : Option Addr} {ca ma : Nat} {w : World} {g bm : Nat} (hm60 : m ≤ 60) (HI : Hid (CallsAt w w.heap.size A l)) (HM : Hid (m = l.length)) (hmc : m ≤ c) (hcm : c ≤ 2 ^ 63 - 1) {Q0 : Exit → Act → World → Prop} (HQ : Hid (∀ (x : List PanicEntry) (a : Act) (d : Option Tmp) (v : Value) (w : World), Q0 (.panic x) (a.put d v) w → Q0 (.panic x) a w)) {wr : World} {u6 u12 u13 u14 u15 u16 u17 u18 u19 u20 u21 u22 u23 u24 u75 u76 u77 u78 u79 u80 u81 u82 u83 u84 u85 u86 u87 u88 u89 u90 u91 u92 u93 u94 u95 u96 u97 u98 u99 u100 u101 u102 u103 u104 u105 u106 u107 u108 u109 u110 u111 u112 u113 u114 u115 u116 u117 u118 u119 u120 u121 u122 u123 u124 u125 u126 u127 u128 u129 u130 u131 u132 u133 u134 u135 u136 u137 u138 u139 u140 u141 u142 u143 u144 u145 u146 u147 u148 u149 u150 u151 u152 u153 u154 u155 u156 u157 u158 u159 u160 u161 u162 u163 u164 u165 u166 u167 u168 u169 u170 u171 u172 u173 u174 u175 u176 u177 u178 u179 u180 u181 u182 u183 u184 u185 u186 : Value} {k n : Nat} {F : Nat → Prop} {L : List (List Int)} {A9 : Option Addr} {q c9 : Nat} (hk : k ≤ m) (hnk : n ≤ 40 + 5 * k) (hqk : q ≤ k) (HS : Hid (TG w wr F g n L bm n A9 q c9 (edgesTo L n) ∧ OK n L)) (hlt : k < m) (hsel : ∀ h : k < l.length, (l[k]'h).1 = 0) : Code.wp Try.prog tellsBody1 (Exit.then (fun a' w' => (∃ u6 u12 u13 u14 u15 u16 u17 u18 u19 u20 u21 u22 u23 u24 u74 u75 u76 u77 u78 u79 u80 u81 u82 u83 u84 u85 u86 u87 u88 u89 u90 u91 u92 u93 u94 u95 u96 u97 u98 u99 u100 u101 u102 u103 u104 u105 u106 u107 u108 u109 u110 u111 u112 u113 u114 u115 u116 u117 u118 u119 u120 u121 u122 u123 u124 u125 u126 u127 u128 u129 u130 u131 u132 u133 u134 u135 u136 u137 u138 u139 u140 u141 u142 u143 u144 u145 u146 u147 u148 u149 u150 u151 u152 u153 u154 u155 u156 u157 u158 u159 u160 u161 u162 u163 u164 u165 u166 u167 u168 u169 u170 u171 u172 u173 u174 u175 u176 u177 u178 u179 u180 u181 u182 u183 u184 u185 u186 : Value, (∃ (k n : Nat) (F : Nat → Prop) (L : List (List Int)) (A9 : Option Addr) (q c9 : Nat), k ≤ m ∧ u74 = Value.int IntKind.i64 ((k : Nat) : Int) ∧ n ≤ 40 + 5 * k ∧ q ≤ k ∧ Hid (TG w w' F g n L bm n A9 q c9 (edgesTo L n) ∧ OK n L)) ∧ a' = { tmps := #[Value.int IntKind.i64 ((n0 : Nat) : Int), Value.slice A m c, Value.slice Aa ma ca, undef, undef, undef, u6, Value.pointer (some { block := g, off := 0 }), Value.int IntKind.i64 0, Value.pointer (some { block := bm, off := 0 }), Value.int IntKind.i64 0, undef, u12, u13, u14, u15, u16, u17, u18, u19, u20, u21, u22, u23, u24, undef, undef, undef, undef, undef, undef, undef, Value.tuple #[Value.pointer (some { block := g, off := 0 }), Value.int IntKind.i64 0], Value.int IntKind.i64 ((n0 : Nat) : Int), Value.tuple #[Value.pointer (some { block := g, off := 0 }), Value.int IntKind.i64 0], Value.pointer (some { block := g, off := 0 }), Value.int IntKind.i64 0, Value.tuple #[Value.agg #[Value.int IntKind.i64 ((n0 : Nat) : Int), Value.slice none 0 0], Value.int IntKind.i64 0], Value.int IntKind.i64 ((n0 : Nat) : Int), Value.tuple #[Value.agg #[Value.int IntKind.i64 ((n0 : Nat) : Int), Value.slice none 0 0], Value.int IntKind.i64 0], Value.agg #[Value.int IntKind.i64 ((n0 : Nat) : Int), Value.slice none 0 0], Value.int IntKind.i64 0, Value.int IntKind.i64 0, Value.int IntKind.i64 0, Value.bool false, Value.bool false, Value.int IntKind.i64 0, Value.bool false, Value.bool false, undef, undef, Value.bool false, Value.bool false, Value.int IntKind.i64 0, Value.bool false, Value.bool false, Value.int IntKind.i64 ((n0 : Nat) : Int), Value.bool (decide (40 < ((n0 : Nat) : Int))), Value.bool (decide (40 < ((n0 : Nat) : Int))), Value.bool (decide (40 < ((n0 : Nat) : Int))), Value.slice A m c, Value.int IntKind.i64 ((m : Nat) : Int), Value.bool (decide (60 < ((m : Nat) : Int))), Value.bool (decide (40 < ((n0 : Nat) : Int)) || decide (60 < ((m : Nat) : Int))), undef, undef, undef, undef, undef, undef, undef, undef, Value.slice A m c, Value.int IntKind.i64 ((m : Nat) : Int), u74, u75, u76, u77, u78, u79, u80, u81, u82, u83, u84, u85, u86, u87, u88, u89, u90, u91, u92, u93, u94, u95, u96, u97, u98, u99, u100, u101, u102, u103, u104, u105, u106, u107, u108, u109, u110, u111, u112, u113, u114, u115, u116, u117, u118, u119, u120, u121, u122, u123, u124, u125, u126, u127, u128, u129, u130, u131, u132, u133, u134, u135, u136, u137, u138, u139, u140, u141, u142, u143, u144, u145, u146, u147, u148, u149, u150, u151, u152, u153, u154, u155, u156, u157, u158, u159, u160, u161, u162, u163, u164, u165, u166, u167, u168, u169, u170, u171, u172, u173, u174, u175, u176, u177, u178, u179, u180, u181, u182, u183, u184, u185, u186, undef, undef, undef, undef, undef, undef, undef, undef, undef, undef, undef, undef, undef, undef, undef, undef, undef, undef, undef, undef, undef, undef, undef, undef, undef, undef, undef, undef, undef, undef, undef, undef, undef, undef, undef, undef, undef, undef, undef, undef, undef, undef, undef, undef, undef, undef, undef, undef, undef, undef, undef, undef, undef, undef, undef, undef, undef, undef, undef, undef, undef, undef, undef, undef, undef, undef, undef, undef, undef, undef, undef, undef, undef, undef, undef, undef, undef, undef, undef], defers := [] }) ∧ m - (intOf (a'.tmps.getD 74 undef)).toNat < m - (intOf (#[Value.int IntKind.i64 ((n0 : Nat) : Int), Value.slice A m c, Value.slice Aa ma ca, undef, undef, undef, u6, Value.pointer (some { block := g, off := 0 }), Value.int IntKind.i64 0, Value.pointer (some { block := bm, off := 0 }), Value.int IntKind.i64 0, undef, u12, u13, u14, u15, u16, u17, u18, u19, u20, u21, u22, u23, u24, undef, undef, undef, undef, undef, undef, undef, Value.tuple #[Value.pointer (some { block := g, off := 0 }), Value.int IntKind.i64 0], Value.int IntKind.i64 ((n0 : Nat) : Int), Value.tuple #[Value.pointer (some { block := g, off := 0 }), Value.int IntKind.i64 0], Value.pointer (some { block := g, off := 0 }), Value.int IntKind.i64 0, Value.tuple #[Value.agg #[Value.int IntKind.i64 ((n0 : Nat) : Int), Value.slice none 0 0], Value.int IntKind.i64 0], Value.int IntKind.i64 ((n0 : Nat) : Int), Value.tuple #[Value.agg #[Value.int IntKind.i64 ((n0 : Nat) : Int), Value.slice none 0 0], Value.int IntKind.i64 0], Value.agg #[Value.int IntKind.i64 ((n0 : Nat) : Int), Value.slice none 0 0], Value.int IntKind.i64 0, Value.int IntKind.i64 0, Value.int IntKind.i64 0, Value.bool false, Value.bool false, Value.int IntKind.i64 0, Value.bool false, Value.bool false, undef, undef, Value.bool false, Value.bool false, Value.int IntKind.i64 0, Value.bool false, Value.bool false, Value.int IntKind.i64 ((n0 : Nat) : Int), Value.bool (decide (40 < ((n0 : Nat) : Int))), Value.bool (decide (40 < ((n0 : Nat) : Int))), Value.bool (decide (40 < ((n0 : Nat) : Int))), Value.slice A m c, Value.int IntKind.i64 ((m : Nat) : Int), Value.bool (decide (60 < ((m : Nat) : Int))), Value.bool (decide (40 < ((n0 : Nat) : Int)) || decide (60 < ((m : Nat) : Int))), undef, undef, undef, undef, undef, undef, undef, undef, Value.slice A m c, Value.int IntKind.i64 ((m : Nat) : Int), (Value.int IntKind.i64 (k : Int)), u75, u76, u77, u78, u79, u80, u81, u82, u83, u84, u85, u86, u87, u88, u89, u90, u91, u92, u93, u94, u95, u96, u97, u98, u99, u100, u101, u102, u103, u104, u105, u106, u107, u108, u109, u110, u111, u112, u113, u114, u115, u116, u117, u118, u119, u120, u121, u122, u123, u124, u125, u126, u127, u128, u129, u130, u131, u132, u133, u134, u135, u136, u137, u138, u139, u140, u141, u142, u143, u144, u145, u146, u147, u148, u149, u150, u151, u152, u153, u154, u155, u156, u157, u158, u159, u160, u161, u162, u163, u164, u165, u166, u167, u168, u169, u170, u171, u172, u173, u174, u175, u176, u177, u178, u179, u180, u181, u182, u183, u184, u185, u186, undef, undef, undef, undef, undef, undef, undef, undef, undef, undef, undef, undef, undef, undef, undef, undef, undef, undef, undef, undef, undef, undef, undef, undef, undef, undef, undef, undef, undef, undef, undef, undef, undef, undef, undef, undef, undef, undef, undef, undef, undef, undef, undef, undef, undef, undef, undef, undef, undef, undef, undef, undef, undef, undef, undef, undef, undef, undef, undef, undef, undef, undef, undef, undef, undef, undef, undef, undef, undef, undef, undef, undef, undef, undef, undef, undef, undef, undef, undef].getD 74 undef)).toNat) Q0) ⟨#[Value.int IntKind.i64 ((n0 : Nat) : Int), Value.slice A m c, Value.slice Aa ma ca, undef, undef, undef, u6, Value.pointer (some { block := g, off := 0 }), Value.int IntKind.i64 0, Value.pointer (some { block := bm, off := 0 }), Value.int IntKind.i64 0, undef, u12, u13, u14, u15, u16, u17, u18, u19, u20, u21, u22, u23, u24, undef, undef, undef, undef, undef, undef, undef, Value.tuple #[Value.pointer (some { block := g, off := 0 }), Value.int IntKind.i64 0], Value.int IntKind.i64 ((n0 : Nat) : Int), Value.tuple #[Value.pointer (some { block := g, off := 0 }), Value.int IntKind.i64 0], Value.pointer (some { block := g, off := 0 }), Value.int IntKind.i64 0, Value.tuple #[Value.agg #[Value.int IntKind.i64 ((n0 : Nat) : Int), Value.slice none 0 0], Value.int IntKind.i64 0], Value.int IntKind.i64 ((n0 : Nat) : Int), Value.tuple #[Value.agg #[Value.int IntKind.i64 ((n0 : Nat) : Int), Value.slice none 0 0], Value.int IntKind.i64 0], Value.agg #[Value.int IntKind.i64 ((n0 : Nat) : Int), Value.slice none 0 0], Value.int IntKind.i64 0, Value.int IntKind.i64 0, Value.int IntKind.i64 0, Value.bool false, Value.bool false, Value.int IntKind.i64 0, Value.bool false, Value.bool false, undef, undef, Value.bool false, Value.bool false, Value.int IntKind.i64 0, Value.bool false, Value.bool false, Value.int IntKind.i64 ((n0 : Nat) : Int), Value.bool (decide (40 < ((n0 : Nat) : Int))), Value.bool (decide (40 < ((n0 : Nat) : Int))), Value.bool (decide (40 < ((n0 : Nat) : Int))), Value.slice A m c, Value.int IntKind.i64 ((m : Nat) : Int), Value.bool (decide (60 < ((m : Nat) : Int))), Value.bool (decide (40 < ((n0 : Nat) : Int)) || decide (60 < ((m : Nat) : Int))), undef, undef, undef, undef, undef, undef, undef, undef, Value.slice A m c, Value.int IntKind.i64 ((m : Nat) : Int), (Value.int IntKind.i64 (k : Int)), u75, u76, u77, u78, u79, u80, u81, u82, u83, u84, u85, u86, u87, u88, u89, u90, u91, u92, u93, u94, u95, u96, u97, u98, u99, u100, u101, u102, u103, u104, u105, u106, u107, u108, u109, u110, u111, u112, u113, u114, u115, u116, u117, u118, u119, u120, u121, u122, u123, u124, u125, u126, u127, u128, u129, u130, u131, u132, u133, u134, u135, u136, u137, u138, u139, u140, u141, u142, u143, u144, u145, u146, u147, u148, u149, u150, u151, u152, u153, u154, u155, u156, u157, u158, u159, u160, u161, u162, u163, u164, u165, u166, u167, u168, u169, u170, u171, u172, u173, u174, u175, u176, u177, u178, u179, u180, u181, u182, u183, u184, u185, u186, undef, undef, undef, undef, undef, undef, undef, undef, undef, undef, undef, undef, undef, undef, undef, undef, undef, undef, undef, undef, undef, undef, undef, undef, undef, undef, undef, undef, undef, undef, undef, undef, undef, undef, undef, undef, undef, undef, undef, undef, undef, undef, undef, undef, undef, undef, undef, undef, undef, undef, undef, undef, undef, undef, undef, undef, undef, undef, undef, undef, undef, undef, undef, undef, undef, undef, undef, undef, undef, undef, undef, undef, undef, undef, undef, undef, undef, undef, undef], []⟩ wr := by
  conv => arg 2; whnf
  have hkl : k < l.length := by have := HM.out; omega
  obtain ⟨b, off, rfl, hb, p1, p2, p3, h256⟩ := HI.out k hkl
  have q1 := (HS.out.1.low.cell (p := ⟨b, _, none⟩) hb).trans p1
  have q2' := (HS.out.1.low.cell (p := ⟨b, _, none⟩) hb).trans p2
  have q3 := (HS.out.1.low.cell (p := ⟨b, _, none⟩) hb).trans p3
  have hsel := hsel hkl
  generalize l[k] = x at *
  obtain ⟨x0, u, v⟩ := x
  have i1 : (0 : Int) ≤ (k : Int) := by omega
  have i2 : (k : Int) < (m : Int) := by omega
  have HBX := Lib.hid (Blk.new_ wr 56 #[.int .u8 (x0 : Int), .int .i64 u, .int .i64 v] rfl)
  have HTa := Lib.hid (HS.out.1.exist.below ((Below.refl _ wr).alloc (Nat.le_refl _) (.cells #[.int .u8 (x0 : Int), .int .i64 u, .int .i64 v] 56)))
  have HOK := Lib.hid HS.out.2
  have a0 := HBX.out.at_ 0 rfl
  have a1 := HBX.out.at_ 1 rfl
  have a2 := HBX.out.at_ 2 rfl
  clear p1 p2 p3 hb hkl HS

  have f0 : ((x0 : Int) == 0) = true := by rw [beq_iff_eq]; have : x0 = 0 := hsel; omega
  clear hsel
  go_wp2_with fail
  refine Calls.mono (put_t HTa.out.gr HOK.out (by omega) HTa.out.low.size u v) ?_
  rintro e w3 ⟨rfl, hU⟩
  obtain ⟨F1, hT1⟩ := HTa.out.upd hU
  have HT1 := Lib.hid hT1.exist
  have HB3 := Lib.hid (box_upd HBX.out (fun e => Nat.lt_irrefl _ e.2) hU)
  have b1 := HB3.out.at_ 1 rfl
  have b2 := HB3.out.at_ 2 rfl
  have d0 := HT1.out.box.at_ 0 rfl
  have d1 := HT1.out.box.at_ 1 rfl
  clear hU hT1 HTa HBX a0 a1 a2
  generalize hpb : pB n L u v = bp at *
  generalize hpc : pC n u v = cp at *
  have HPB := Lib.hid hpb
  have HPC := Lib.hid hpc
  clear hpb hpc
  go_wp2_with fail
  refine Calls.mono (refput_t HOK.out HT1.out.len HT1.out.cap HT1.out.max (by omega) HT1.out.edges u v) ?_
  rintro e w4 ⟨A2, q2, c2, rfl, hq2, hR⟩
  rw [HPB.out, HPC.out]
  have HOK2 := Lib.hid (pL_ok HOK.out u v)
  clear HOK
  have HR := Lib.hid hR
  have hbd := (HT1.out.below hR.low).below ((Below.refl _ w4).alloc (Nat.le_refl _) (.cells #[.int .i64 (n : Int), .slice A2 q2 c2] 52))
  have x0' := hbd.box.at_ 0 rfl
  have x1' := hbd.box.at_ 1 rfl
  have x2' := hbd.box.frozen 0
  have x3' := hbd.box.frozen 1
  have HT : Hid (TG w (((w4.alloc (.cells #[.int .i64 (n : Int), .slice A2 q2 c2] 52)).setCell ⟨bm, 0, none⟩ (.int .i64 (n : Int))).setCell ⟨bm, 1, none⟩ (.slice A2 q2 c2)) (fun j => F1 j ∧ j < w3.heap.size) g n (pL n L u v) bm n A2 q2 c2 (edgesTo (pL n L u v) n)) := Lib.hid (HT1.out.keep (fun j hj => hj.2) HR.out ((Below.refl _ w4).alloc (Nat.le_refl _) _))
  have HBC : Hid (Blk (((w4.alloc (.cells #[.int .i64 (n : Int), .slice A2 q2 c2] 52)).setCell ⟨bm, 0, none⟩ (.int .i64 (n : Int))).setCell ⟨bm, 1, none⟩ (.slice A2 q2 c2)) wr.heap.size 56 #[.int .u8 (x0 : Int), .int .i64 u, .int .i64 v]) := Lib.hid (by
    have hb4 : Blk (w4.alloc (.cells #[.int .i64 (n : Int), .slice A2 q2 c2] 52)) wr.heap.size 56 #[.int .u8 (x0 : Int), .int .i64 u, .int .i64 v] := (HB3.out.below HR.out.low HB3.out.lt).alloc _
    have hne : wr.heap.size ≠ bm := hb4.ne_ hbd.box (by decide)
    exact (hb4.farN hne _).farN hne _)
  have b1' : w4.cell? ⟨wr.heap.size, 1, none⟩ = some (.int .i64 u) := (HB3.out.below HR.out.low HB3.out.lt).at_ 1 rfl
  have b2' : w4.cell? ⟨wr.heap.size, 2, none⟩ = some (.int .i64 v) := (HB3.out.below HR.out.low HB3.out.lt).at_ 2 rfl
  clear hR HR HT1 HB3 b1 b2 d0 d1 hbd
  have ebp : (bp == bp) = true := by simp
  have ecp : (cp == cp) = true := by simp
  unfold rv
  go_wp2_with fail
  clear x0' x1' x2' x3' b1' b2' ebp ecp
  generalize ((w4.alloc (.cells #[.int .i64 (n : Int), .slice A2 q2 c2] 52)).setCell ⟨bm, 0, none⟩ (.int .i64 (n : Int))).setCell ⟨bm, 1, none⟩ (.slice A2 q2 c2) = wx at *
  have HCL : Hid (∀ W, Below wx.heap.size wx W → W.cell? ⟨bm, 0, none⟩ = some (.int .i64 (n : Int)) ∧ W.cell? ⟨bm, 1, none⟩ = some (.slice A2 q2 c2) ∧ W.cell? ⟨wr.heap.size, 0, none⟩ = some (.int .u8 (x0 : Int)) ∧ W.cell? ⟨wr.heap.size, 1, none⟩ = some (.int .i64 u) ∧ W.cell? ⟨wr.heap.size, 2, none⟩ = some (.int .i64 v)) := Lib.hid (fun W hW => ⟨(HT.out.box.below hW HT.out.box.lt).at_ 0 rfl, (HT.out.box.below hW HT.out.box.lt).at_ 1 rfl, (HBC.out.below hW HBC.out.lt).at_ 0 rfl, (HBC.out.below hW HBC.out.lt).at_ 1 rfl, (HBC.out.below hW HBC.out.lt).at_ 2 rfl⟩)
  have hS : Below wx.heap.size wx wx.drew := (Below.refl _ wx).drew
  refine wp_region_heldG [] (fun _ W => Below wx.heap.size wx W) (by kernel_rfl) ?_
  change wpAnyG _ _ _ _ _ _ 32 _ _ wx.drew
  refine g_take (i := 0) rfl rfl (by kernel_rfl) (by kernel_rfl) (by kernel_rfl) (by kernel_rfl) (by kernel_rfl) (fun _ _ _ h => HQ.out _ _ _ _ _ h) hS (fun L' W hL hW => by go_simp; rfl) ?_
  refine g_take (i := 1) rfl rfl (by kernel_rfl) (by kernel_rfl) (by kernel_rfl) (by kernel_rfl) (by kernel_rfl) (fun _ _ _ h => HQ.out _ _ _ _ _ h) hS (fun L' W hL hW => by go_simp; rfl) ?_
  refine g_take (i := 2) rfl rfl (by kernel_rfl) (by kernel_rfl) (by kernel_rfl) (by kernel_rfl) (by kernel_rfl) (fun _ _ _ h => HQ.out _ _ _ _ _ h) hS (fun L' W hL hW => by go_simp; rfl) ?_
  refine g_takeG (i := 3) rfl (by simp only [Region.wanted, yielded]; go_simp) (by kernel_rfl) (by kernel_rfl) (by kernel_rfl) (by kernel_rfl) (by kernel_rfl) (fun _ _ _ h => HQ.out _ _ _ _ _ h) hS (fun L' W hL hW => by go_simp; rfl) ?_
  refine g_takeG (i := 5) rfl (by simp only [Region.wanted, yielded]; go_simp) (by kernel_rfl) (by kernel_rfl) (by kernel_rfl) (by kernel_rfl) (by kernel_rfl) (fun _ _ _ h => HQ.out _ _ _ _ _ h) hS (fun L' W hL hW => by go_simp; rfl) ?_
  refine g_takeG (i := 6) rfl (by simp only [Region.wanted, yielded]; go_simp) (by kernel_rfl) (by kernel_rfl) (by kernel_rfl) (by kernel_rfl) (by kernel_rfl) (fun _ _ _ h => HQ.out _ _ _ _ _ h) hS (fun L' W hL hW => by obtain ⟨k0, k1, k2, k3, k4⟩ := HCL.out _ hW; go_simp; rfl) ?_
  refine g_one (i := 4) rfl (by simp only [Region.wanted, yielded]; go_simp) (by kernel_rfl) fun K hK => ?_
  go_simp
  refine Calls.mono (len_g (HT.out.below hS).gr) ?_
  rintro e w' ⟨rfl, rfl⟩
  refine hK _ _ hS ?_
  clear hK K
  refine g_takeG (i := 7) rfl (by simp only [Region.wanted, yielded]; go_simp) (by kernel_rfl) (by kernel_rfl) (by kernel_rfl) (by kernel_rfl) (by kernel_rfl) (fun _ _ _ h => HQ.out _ _ _ _ _ h) hS (fun L' W hL hW => by go_simp; rfl) ?_
  refine g_take (i := 8) rfl rfl (by kernel_rfl) (by kernel_rfl) (by kernel_rfl) (by kernel_rfl) (by kernel_rfl) (fun _ _ _ h => HQ.out _ _ _ _ _ h) hS (fun L' W hL hW => by go_simp; rfl) ?_
  refine g_take (i := 9) rfl rfl (by kernel_rfl) (by kernel_rfl) (by kernel_rfl) (by kernel_rfl) (by kernel_rfl) (fun _ _ _ h => HQ.out _ _ _ _ _ h) hS (fun L' W hL hW => by go_simp; rfl) ?_
  refine g_takeG (i := 10) rfl (by simp only [Region.wanted, yielded]; go_simp) (by kernel_rfl) (by kernel_rfl) (by kernel_rfl) (by kernel_rfl) (by kernel_rfl) (fun _ _ _ h => HQ.out _ _ _ _ _ h) hS (fun L' W hL hW => by go_simp; rfl) ?_
  refine g_takeG (i := 12) rfl (by simp only [Region.wanted, yielded]; go_simp) (by kernel_rfl) (by kernel_rfl) (by kernel_rfl) (by kernel_rfl) (by kernel_rfl) (fun _ _ _ h => HQ.out _ _ _ _ _ h) hS (fun L' W hL hW => by go_simp; rfl) ?_
  refine g_takeG (i := 13) rfl (by simp only [Region.wanted, yielded]; go_simp) (by kernel_rfl) (by kernel_rfl) (by kernel_rfl) (by kernel_rfl) (by kernel_rfl) (fun _ _ _ h => HQ.out _ _ _ _ _ h) hS (fun L' W hL hW => by obtain ⟨k0, k1, k2, k3, k4⟩ := HCL.out _ hW; go_simp; rfl) ?_
  refine g_one (i := 11) rfl (by simp only [Region.wanted, yielded]; go_simp) (by kernel_rfl) fun K hK => ?_
  go_simp
  refine Calls.mono (edges_any wx.drew _ g n _ (pL n L u v) (HT.out.below hS).gr (HOK2.out.rises (by omega)) (by omega)) ?_
  rintro e w4 ⟨Ae, ce, rfl, B4, O4⟩
  have hS : Below wx.heap.size wx w4 := hS.trans B4
  have HE4 := Lib.hid (EdgesAt.of_own O4)
  rw [← HT.out.len]
  rw [← HT.out.len] at HE4
  refine hK _ _ hS ?_
  clear hK K B4 O4
  refine g_one (i := 14) rfl (by simp only [Region.wanted, yielded]; go_simp) (by kernel_rfl) fun K hK => ?_
  go_simp
  refine Calls.mono (sameEdges_any Ae A2 ce c2 (edgesTo (pL n L u v) n) (edgesTo (pL n L u v) n) q2 q2 HT.out.len HT.out.len HE4.out.2.2.1 HE4.out.2.2.2 w4 HE4.out.1 (HT.out.below hS).edges) ?_
  rintro e w5 ⟨rfl, B5⟩
  rw [decide_eq_true (show edgesTo (pL n L u v) n = edgesTo (pL n L u v) n from rfl)]
  have hS : Below wx.heap.size wx w5 := hS.trans (B5.mono hS.size)
  refine hK _ _ hS ?_
  clear hK K B5 HE4
  refine g_takeG (i := 15) rfl (by simp only [Region.wanted, yielded]; go_simp) (by kernel_rfl) (by kernel_rfl) (by kernel_rfl) (by kernel_rfl) (by kernel_rfl) (fun _ _ _ h => HQ.out _ _ _ _ _ h) hS (fun L' W hL hW => by go_simp; rfl) ?_
  refine g_take (i := 16) rfl rfl (by kernel_rfl) (by kernel_rfl) (by kernel_rfl) (by kernel_rfl) (by kernel_rfl) (fun _ _ _ h => HQ.out _ _ _ _ _ h) hS (fun L' W hL hW => by go_simp; rfl) ?_
  refine g_take (i := 17) rfl rfl (by kernel_rfl) (by kernel_rfl) (by kernel_rfl) (by kernel_rfl) (by kernel_rfl) (fun _ _ _ h => HQ.out _ _ _ _ _ h) hS (fun L' W hL hW => by go_simp; rfl) ?_
  refine g_takeG (i := 18) rfl (by simp only [Region.wanted, yielded]; go_simp) (by kernel_rfl) (by kernel_rfl) (by kernel_rfl) (by kernel_rfl) (by kernel_rfl) (fun _ _ _ h => HQ.out _ _ _ _ _ h) hS (fun L' W hL hW => by go_simp; rfl) ?_
  refine g_takeG (i := 19) rfl (by simp only [Region.wanted, yielded]; go_simp) (by kernel_rfl) (by kernel_rfl) (by kernel_rfl) (by kernel_rfl) (by kernel_rfl) (fun _ _ _ h => HQ.out _ _ _ _ _ h) hS (fun L' W hL hW => by go_simp; rfl) ?_
  refine g_takeG (i := 20) rfl (by simp only [Region.wanted, yielded]; go_simp) (by kernel_rfl) (by kernel_rfl) (by kernel_rfl) (by kernel_rfl) (by kernel_rfl) (fun _ _ _ h => HQ.out _ _ _ _ _ h) hS (fun L' W hL hW => by obtain ⟨k0, k1, k2, k3, k4⟩ := HCL.out _ hW; go_simp; rfl) ?_
  refine g_takeG (i := 21) rfl (by simp only [Region.wanted, yielded]; go_simp) (by kernel_rfl) (by kernel_rfl) (by kernel_rfl) (by kernel_rfl) (by kernel_rfl) (fun _ _ _ h => HQ.out _ _ _ _ _ h) hS (fun L' W hL hW => by go_simp; rfl) ?_
  refine g_takeG (i := 22) rfl (by simp only [Region.wanted, yielded]; go_simp) (by kernel_rfl) (by kernel_rfl) (by kernel_rfl) (by kernel_rfl) (by kernel_rfl) (fun _ _ _ h => HQ.out _ _ _ _ _ h) hS (fun L' W hL hW => by obtain ⟨k0, k1, k2, k3, k4⟩ := HCL.out _ hW; go_simp; rfl) ?_
  refine g_takeG (i := 24) rfl (by simp only [Region.wanted, yielded]; go_simp) (by kernel_rfl) (by kernel_rfl) (by kernel_rfl) (by kernel_rfl) (by kernel_rfl) (fun _ _ _ h => HQ.out _ _ _ _ _ h) hS (fun L' W hL hW => by obtain ⟨k0, k1, k2, k3, k4⟩ := HCL.out _ hW; go_simp; rfl) ?_
  refine g_takeG (i := 25) rfl (by simp only [Region.wanted, yielded]; go_simp) (by kernel_rfl) (by kernel_rfl) (by kernel_rfl) (by kernel_rfl) (by kernel_rfl) (fun _ _ _ h => HQ.out _ _ _ _ _ h) hS (fun L' W hL hW => by go_simp; rfl) ?_
  refine g_takeG (i := 26) rfl (by simp only [Region.wanted, yielded]; go_simp) (by kernel_rfl) (by kernel_rfl) (by kernel_rfl) (by kernel_rfl) (by kernel_rfl) (fun _ _ _ h => HQ.out _ _ _ _ _ h) hS (fun L' W hL hW => by obtain ⟨k0, k1, k2, k3, k4⟩ := HCL.out _ hW; go_simp; rfl) ?_
  refine g_takeG (i := 27) rfl (by simp only [Region.wanted, yielded]; go_simp) (by kernel_rfl) (by kernel_rfl) (by kernel_rfl) (by kernel_rfl) (by kernel_rfl) (fun _ _ _ h => HQ.out _ _ _ _ _ h) hS (fun L' W hL hW => by go_simp; rfl) ?_
  refine g_takeG (i := 28) rfl (by simp only [Region.wanted, yielded]; go_simp) (by kernel_rfl) (by kernel_rfl) (by kernel_rfl) (by kernel_rfl) (by kernel_rfl) (fun _ _ _ h => HQ.out _ _ _ _ _ h) hS (fun L' W hL hW => by obtain ⟨k0, k1, k2, k3, k4⟩ := HCL.out _ hW; go_simp; rfl) ?_
  refine g_one (i := 23) rfl (by simp only [Region.wanted, yielded]; go_simp) (by kernel_rfl) fun K hK => ?_
  go_simp
  refine Calls.mono (has_c (HT.out.below hS).gr HOK2.out (by omega) u v _ rfl) ?_
  rintro e w6 ⟨rfl, B6⟩
  have hS : Below wx.heap.size wx w6 := hS.trans (B6.mono hS.size)
  refine hK _ _ hS ?_
  clear hK K B6
  refine g_one (i := 29) rfl (by simp only [Region.wanted, yielded]; go_simp) (by kernel_rfl) fun K hK => ?_
  go_simp
  refine Calls.mono (refhas_any w6 n A2 q2 c2 (edgesTo (pL n L u v) n) HT.out.len HT.out.cap HT.out.max (HT.out.below hS).edges u v) ?_
  rintro e w7 ⟨rfl, B7⟩
  have hS : Below wx.heap.size wx w7 := hS.trans (B7.mono hS.size)
  rw [show decide ((u, v) ∈ edgesTo (pL n L u v) n) = hasE n (pL n L u v) u v by rw [Bool.eq_iff_iff, decide_eq_true_eq]; exact Gr.mem_has HOK2.out]
  refine hK _ _ hS ?_
  clear hK K B7
  generalize hasE n (pL n L u v) u v = bh at *
  refine g_takeG (i := 30) rfl (by simp only [Region.wanted, yielded]; go_simp) (by kernel_rfl) (by kernel_rfl) (by kernel_rfl) (by kernel_rfl) (by kernel_rfl) (fun _ _ _ h => HQ.out _ _ _ _ _ h) hS (fun L' W hL hW => by go_simp; rfl) ?_
  refine g_take (i := 31) rfl rfl (by kernel_rfl) (by kernel_rfl) (by kernel_rfl) (by kernel_rfl) (by kernel_rfl) (fun _ _ _ h => HQ.out _ _ _ _ _ h) hS (fun L' W hL hW => by go_simp; rfl) ?_
  refine wpAnyG_done (by kernel_rfl) ?_ _
  have HN : Hid (TG w w7 (fun j => F1 j ∧ j < w3.heap.size) g n (pL n L u v) bm n A2 q2 c2 (edgesTo (pL n L u v) n) ∧ OK n (pL n L u v)) := Lib.hid ⟨HT.out.below hS, HOK2.out⟩
  clear hS HCL HT HOK2 HBC
  go_simp
  have ebh : (bh != bh) = false := by simp
  go_wp2_with fail
  go_roundw
  case rel => exact ⟨k + 1, n, (fun j => F1 j ∧ j < w3.heap.size), (pL n L u v), A2, q2, c2, by omega, by go_num, by omega, by omega, HN⟩
  case measure => simp [intOf]; omega

set_option maxRecDepth 1000000 in
set_option maxHeartbeats 16000000 in
theorem round_C {n0 m : Nat} {A : Option Addr} {c : Nat} {l : List (Nat × Int × Int)} {Aa : Option Addr} {ca ma : Nat} {w : World} {g bm : Nat} (hm60 : m ≤ 60) (HI : Hid (CallsAt w w.heap.size A l)) (HM : Hid (m = l.length)) (hmc : m ≤ c) (hcm : c ≤ 2 ^ 63 - 1) {Q0 : Exit → Act → World → Prop} (HQ : Hid (∀ (x : List PanicEntry) (a : Act) (d : Option Tmp) (v : Value) (w : World), Q0 (.panic x) (a.put d v) w → Q0 (.panic x) a w)) {wr : World} {u6 u12 u13 u14 u15 u16 u17 u18 u19 u20 u21 u22 u23 u24 u75 u76 u77 u78 u79 u80 u81 u82 u83 u84 u85 u86 u87 u88 u89 u90 u91 u92 u93 u94 u95 u96 u97 u98 u99 u100 u101 u102 u103 u104 u105 u106 u107 u108 u109 u110 u111 u112 u113 u114 u115 u116 u117 u118 u119 u120 u121 u122 u123 u124 u125 u126 u127 u128 u129 u130 u131 u132 u133 u134 u135 u136 u137 u138 u139 u140 u141 u142 u143 u144 u145 u146 u147 u148 u149 u150 u151 u152 u153 u154 u155 u156 u157 u158 u159 u160 u161 u162 u163 u164 u165 u166 u167 u168 u169 u170 u171 u172 u173 u174 u175 u176 u177 u178 u179 u180 u181 u182 u183 u184 u185 u186 : Value} {k n : Nat} {F : Nat → Prop} {L : List (List Int)} {A9 : Option Addr} {q c9 : Nat} (hk : k ≤ m) (hnk : n ≤ 40 + 5 * k) (hqk : q ≤ k) (HS : Hid (TG w wr F g n L bm n A9 q c9 (edgesTo L n) ∧ OK n L)) (hlt : k < m) (hsel : ∀ h : k < l.length, (l[k]'h).1 = 1) : Code.wp Try.prog tellsBody1 (Exit.then (fun a' w' => (∃ u6 u12 u13 u14 u15 u16 u17 u18 u19 u20 u21 u22 u23 u24 u74 u75 u76 u77 u78 u79 u80 u81 u82 u83 u84 u85 u86 u87 u88 u89 u90 u91 u92 u93 u94 u95 u96 u97 u98 u99 u100 u101 u102 u103 u104 u105 u106 u107 u108 u109 u110 u111 u112 u113 u114 u115 u116 u117 u118 u119 u120 u121 u122 u123 u124 u125 u126 u127 u128 u129 u130 u131 u132 u133 u134 u135 u136 u137 u138 u139 u140 u141 u142 u143 u144 u145 u146 u147 u148 u149 u150 u151 u152 u153 u154 u155 u156 u157 u158 u159 u160 u161 u162 u163 u164 u165 u166 u167 u168 u169 u170 u171 u172 u173 u174 u175 u176 u177 u178 u179 u180 u181 u182 u183 u184 u185 u186 : Value, (∃ (k n : Nat) (F : Nat → Prop) (L : List (List Int)) (A9 : Option Addr) (q c9 : Nat), k ≤ m ∧ u74 = Value.int IntKind.i64 ((k : Nat) : Int) ∧ n ≤ 40 + 5 * k ∧ q ≤ k ∧ Hid (TG w w' F g n L bm n A9 q c9 (edgesTo L n) ∧ OK n L)) ∧ a' = { tmps := #[Value.int IntKind.i64 ((n0 : Nat) : Int), Value.slice A m c, Value.slice Aa ma ca, undef, undef, undef, u6, Value.pointer (some { block := g, off := 0 }), Value.int IntKind.i64 0, Value.pointer (some { block := bm, off := 0 }), Value.int IntKind.i64 0, undef, u12, u13, u14, u15, u16, u17, u18, u19, u20, u21, u22, u23, u24, undef, undef, undef, undef, undef, undef, undef, Value.tuple #[Value.pointer (some { block := g, off := 0 }), Value.int IntKind.i64 0], Value.int IntKind.i64 ((n0 : Nat) : Int), Value.tuple #[Value.pointer (some { block := g, off := 0 }), Value.int IntKind.i64 0], Value.pointer (some { block := g, off := 0 }), Value.int IntKind.i64 0, Value.tuple #[Value.agg #[Value.int IntKind.i64 ((n0 : Nat) : Int), Value.slice none 0 0], Value.int IntKind.i64 0], Value.int IntKind.i64 ((n0 : Nat) : Int), Value.tuple #[Value.agg #[Value.int IntKind.i64 ((n0 : Nat) : Int), Value.slice none 0 0], Value.int IntKind.i64 0], Value.agg #[Value.int IntKind.i64 ((n0 : Nat) : Int), Value.slice none 0 0], Value.int IntKind.i64 0, Value.int IntKind.i64 0, Value.int IntKind.i64 0, Value.bool false, Value.bool false, Value.int IntKind.i64 0, Value.bool false, Value.bool false, undef, undef, Value.bool false, Value.bool false, Value.int IntKind.i64 0, Value.bool false, Value.bool false, Value.int IntKind.i64 ((n0 : Nat) : Int), Value.bool (decide (40 < ((n0 : Nat) : Int))), Value.bool (decide (40 < ((n0 : Nat) : Int))), Value.bool (decide (40 < ((n0 : Nat) : Int))), Value.slice A m c, Value.int IntKind.i64 ((m : Nat) : Int), Value.bool (decide (60 < ((m : Nat) : Int))), Value.bool (decide (40 < ((n0 : Nat) : Int)) || decide (60 < ((m : Nat) : Int))), undef, undef, undef, undef, undef, undef, undef, undef, Value.slice A m c, Value.int IntKind.i64 ((m : Nat) : Int), u74, u75, u76, u77, u78, u79, u80, u81, u82, u83, u84, u85, u86, u87, u88, u89, u90, u91, u92, u93, u94, u95, u96, u97, u98, u99, u100, u101, u102, u103, u104, u105, u106, u107, u108, u109, u110, u111, u112, u113, u114, u115, u116, u117, u118, u119, u120, u121, u122, u123, u124, u125, u126, u127, u128, u129, u130, u131, u132, u133, u134, u135, u136, u137, u138, u139, u140, u141, u142, u143, u144, u145, u146, u147, u148, u149, u150, u151, u152, u153, u154, u155, u156, u157, u158, u159, u160, u161, u162, u163, u164, u165, u166, u167, u168, u169, u170, u171, u172, u173, u174, u175, u176, u177, u178, u179, u180, u181, u182, u183, u184, u185, u186, undef, undef, undef, undef, undef, undef, undef, undef, undef, undef, undef, undef, undef, undef, undef, undef, undef, undef, undef, undef, undef, undef, undef, undef, undef, undef, undef, undef, undef, undef, undef, undef, undef, undef, undef, undef, undef, undef, undef, undef, undef, undef, undef, undef, undef, undef, undef, undef, undef, undef, undef, undef, undef, undef, undef, undef, undef, undef, undef, undef, undef, undef, undef, undef, undef, undef, undef, undef, undef, undef, undef, undef, undef, undef, undef, undef, undef, undef, undef], defers := [] }) ∧ m - (intOf (a'.tmps.getD 74 undef)).toNat < m - (intOf (#[Value.int IntKind.i64 ((n0 : Nat) : Int), Value.slice A m c, Value.slice Aa ma ca, undef, undef, undef, u6, Value.pointer (some { block := g, off := 0 }), Value.int IntKind.i64 0, Value.pointer (some { block := bm, off := 0 }), Value.int IntKind.i64 0, undef, u12, u13, u14, u15, u16, u17, u18, u19, u20, u21, u22, u23, u24, undef, undef, undef, undef, undef, undef, undef, Value.tuple #[Value.pointer (some { block := g, off := 0 }), Value.int IntKind.i64 0], Value.int IntKind.i64 ((n0 : Nat) : Int), Value.tuple #[Value.pointer (some { block := g, off := 0 }), Value.int IntKind.i64 0], Value.pointer (some { block := g, off := 0 }), Value.int IntKind.i64 0, Value.tuple #[Value.agg #[Value.int IntKind.i64 ((n0 : Nat) : Int), Value.slice none 0 0], Value.int IntKind.i64 0], Value.int IntKind.i64 ((n0 : Nat) : Int), Value.tuple #[Value.agg #[Value.int IntKind.i64 ((n0 : Nat) : Int), Value.slice none 0 0], Value.int IntKind.i64 0], Value.agg #[Value.int IntKind.i64 ((n0 : Nat) : Int), Value.slice none 0 0], Value.int IntKind.i64 0, Value.int IntKind.i64 0, Value.int IntKind.i64 0, Value.bool false, Value.bool false, Value.int IntKind.i64 0, Value.bool false, Value.bool false, undef, undef, Value.bool false, Value.bool false, Value.int IntKind.i64 0, Value.bool false, Value.bool false, Value.int IntKind.i64 ((n0 : Nat) : Int), Value.bool (decide (40 < ((n0 : Nat) : Int))), Value.bool (decide (40 < ((n0 : Nat) : Int))), Value.bool (decide (40 < ((n0 : Nat) : Int))), Value.slice A m c, Value.int IntKind.i64 ((m : Nat) : Int), Value.bool (decide (60 < ((m : Nat) : Int))), Value.bool (decide (40 < ((n0 : Nat) : Int)) || decide (60 < ((m : Nat) : Int))), undef, undef, undef, undef, undef, undef, undef, undef, Value.slice A m c, Value.int IntKind.i64 ((m : Nat) : Int), (Value.int IntKind.i64 (k : Int)), u75, u76, u77, u78, u79, u80, u81, u82, u83, u84, u85, u86, u87, u88, u89, u90, u91, u92, u93, u94, u95, u96, u97, u98, u99, u100, u101, u102, u103, u104, u105, u106, u107, u108, u109, u110, u111, u112, u113, u114, u115, u116, u117, u118, u119, u120, u121, u122, u123, u124, u125, u126, u127, u128, u129, u130, u131, u132, u133, u134, u135, u136, u137, u138, u139, u140, u141, u142, u143, u144, u145, u146, u147, u148, u149, u150, u151, u152, u153, u154, u155, u156, u157, u158, u159, u160, u161, u162, u163, u164, u165, u166, u167, u168, u169, u170, u171, u172, u173, u174, u175, u176, u177, u178, u179, u180, u181, u182, u183, u184, u185, u186, undef, undef, undef, undef, undef, undef, undef, undef, undef, undef, undef, undef, undef, undef, undef, undef, undef, undef, undef, undef, undef, undef, undef, undef, undef, undef, undef, undef, undef, undef, undef, undef, undef, undef, undef, undef, undef, undef, undef, undef, undef, undef, undef, undef, undef, undef, undef, undef, undef, undef, undef, undef, undef, undef, undef, undef, undef, undef, undef, undef, undef, undef, undef, undef, undef, undef, undef, undef, undef, undef, undef, undef, undef, undef, undef, undef, undef, undef, undef].getD 74 undef)).toNat) Q0) ⟨#[Value.int IntKind.i64 ((n0 : Nat) : Int), Value.slice A m c, Value.slice Aa ma ca, undef, undef, undef, u6, Value.pointer (some { block := g, off := 0 }), Value.int IntKind.i64 0, Value.pointer (some { block := bm, off := 0 }), Value.int IntKind.i64 0, undef, u12, u13, u14, u15, u16, u17, u18, u19, u20, u21, u22, u23, u24, undef, undef, undef, undef, undef, undef, undef, Value.tuple #[Value.pointer (some { block := g, off := 0 }), Value.int IntKind.i64 0], Value.int IntKind.i64 ((n0 : Nat) : Int), Value.tuple #[Value.pointer (some { block := g, off := 0 }), Value.int IntKind.i64 0], Value.pointer (some { block := g, off := 0 }), Value.int IntKind.i64 0, Value.tuple #[Value.agg #[Value.int IntKind.i64 ((n0 : Nat) : Int), Value.slice none 0 0], Value.int IntKind.i64 0], Value.int IntKind.i64 ((n0 : Nat) : Int), Value.tuple #[Value.agg #[Value.int IntKind.i64 ((n0 : Nat) : Int), Value.slice none 0 0], Value.int IntKind.i64 0], Value.agg #[Value.int IntKind.i64 ((n0 : Nat) : Int), Value.slice none 0 0], Value.int IntKind.i64 0, Value.int IntKind.i64 0, Value.int IntKind.i64 0, Value.bool false, Value.bool false, Value.int IntKind.i64 0, Value.bool false, Value.bool false, undef, undef, Value.bool false, Value.bool false, Value.int IntKind.i64 0, Value.bool false, Value.bool false, Value.int IntKind.i64 ((n0 : Nat) : Int), Value.bool (decide (40 < ((n0 : Nat) : Int))), Value.bool (decide (40 < ((n0 : Nat) : Int))), Value.bool (decide (40 < ((n0 : Nat) : Int))), Value.slice A m c, Value.int IntKind.i64 ((m : Nat) : Int), Value.bool (decide (60 < ((m : Nat) : Int))), Value.bool (decide (40 < ((n0 : Nat) : Int)) || decide (60 < ((m : Nat) : Int))), undef, undef, undef, undef, undef, undef, undef, undef, Value.slice A m c, Value.int IntKind.i64 ((m : Nat) : Int), (Value.int IntKind.i64 (k : Int)), u75, u76, u77, u78, u79, u80, u81, u82, u83, u84, u85, u86, u87, u88, u89, u90, u91, u92, u93, u94, u95, u96, u97, u98, u99, u100, u101, u102, u103, u104, u105, u106, u107, u108, u109, u110, u111, u112, u113, u114, u115, u116, u117, u118, u119, u120, u121, u122, u123, u124, u125, u126, u127, u128, u129, u130, u131, u132, u133, u134, u135, u136, u137, u138, u139, u140, u141, u142, u143, u144, u145, u146, u147, u148, u149, u150, u151, u152, u153, u154, u155, u156, u157, u158, u159, u160, u161, u162, u163, u164, u165, u166, u167, u168, u169, u170, u171, u172, u173, u174, u175, u176, u177, u178, u179, u180, u181, u182, u183, u184, u185, u186, undef, undef, undef, undef, undef, undef, undef, undef, undef, undef, undef, undef, undef, undef, undef, undef, undef, undef, undef, undef, undef, undef, undef, undef, undef, undef, undef, undef, undef, undef, undef, undef, undef, undef, undef, undef, undef, undef, undef, undef, undef, undef, undef, undef, undef, undef, undef, undef, undef, undef, undef, undef, undef, undef, undef, undef, undef, undef, undef, undef, undef, undef, undef, undef, undef, undef, undef, undef, undef, undef, undef, undef, undef, undef, undef, undef, undef, undef, undef], []⟩ wr := by
  conv => arg 2; whnf
  have hkl : k < l.length := by have := HM.out; omega
  obtain ⟨b, off, rfl, hb, p1, p2, p3, h256⟩ := HI.out k hkl
  have q1 := (HS.out.1.low.cell (p := ⟨b, _, none⟩) hb).trans p1
  have q2' := (HS.out.1.low.cell (p := ⟨b, _, none⟩) hb).trans p2
  have q3 := (HS.out.1.low.cell (p := ⟨b, _, none⟩) hb).trans p3
  have hsel := hsel hkl
  generalize l[k] = x at *
  obtain ⟨x0, u, v⟩ := x
  have i1 : (0 : Int) ≤ (k : Int) := by omega
  have i2 : (k : Int) < (m : Int) := by omega
  have HBX := Lib.hid (Blk.new_ wr 56 #[.int .u8 (x0 : Int), .int .i64 u, .int .i64 v] rfl)
  have HTa := Lib.hid (HS.out.1.exist.below ((Below.refl _ wr).alloc (Nat.le_refl _) (.cells #[.int .u8 (x0 : Int), .int .i64 u, .int .i64 v] 56)))
  have HOK := Lib.hid HS.out.2
  have a0 := HBX.out.at_ 0 rfl
  have a1 := HBX.out.at_ 1 rfl
  have a2 := HBX.out.at_ 2 rfl
  clear p1 p2 p3 hb hkl HS

  have f0 : ((x0 : Int) == 0) = false := by rw [beq_eq_false_iff_ne]; have : x0 = 1 := hsel; omega
  have f1 : ((x0 : Int) == 1) = true := by rw [beq_iff_eq]; have : x0 = 1 := hsel; omega
  clear hsel
  go_wp2_with fail
  refine Calls.mono (cut_t HTa.out.gr HOK.out (by omega) HTa.out.low.size u v) ?_
  rintro e w3 ⟨rfl, hU⟩
  obtain ⟨F1, hT1⟩ := HTa.out.upd hU
  have HT1 := Lib.hid hT1.exist
  have HB3 := Lib.hid (box_upd HBX.out (fun e => Nat.lt_irrefl _ e.2) hU)
  have b1 := HB3.out.at_ 1 rfl
  have b2 := HB3.out.at_ 2 rfl
  have d0 := HT1.out.box.at_ 0 rfl
  have d1 := HT1.out.box.at_ 1 rfl
  clear hU hT1 HTa HBX a0 a1 a2
  generalize hpb : decide ((u, v) ∈ edgesTo L n) = bp at *
  have HPB := Lib.hid hpb
  clear hpb
  go_wp2_with fail
  refine Calls.mono (refcut_t HOK.out HT1.out.len HT1.out.cap HT1.out.max (by omega) HT1.out.edges u v) ?_
  rintro e w4 ⟨A2, q2, c2, rfl, hq2, hR⟩
  rw [HPB.out]
  have cp : Int := 0
  have HOK2 := Lib.hid (cL_ok HOK.out u v)
  clear HOK
  have HR := Lib.hid hR
  have hbd := (HT1.out.below hR.low).below ((Below.refl _ w4).alloc (Nat.le_refl _) (.cells #[.int .i64 (n : Int), .slice A2 q2 c2] 52))
  have x0' := hbd.box.at_ 0 rfl
  have x1' := hbd.box.at_ 1 rfl
  have x2' := hbd.box.frozen 0
  have x3' := hbd.box.frozen 1
  have HT : Hid (TG w (((w4.alloc (.cells #[.int .i64 (n : Int), .slice A2 q2 c2] 52)).setCell ⟨bm, 0, none⟩ (.int .i64 (n : Int))).setCell ⟨bm, 1, none⟩ (.slice A2 q2 c2)) (fun j => F1 j ∧ j < w3.heap.size) g n (cL n L u v) bm n A2 q2 c2 (edgesTo (cL n L u v) n)) := Lib.hid (HT1.out.keep (fun j hj => hj.2) HR.out ((Below.refl _ w4).alloc (Nat.le_refl _) _))
  have HBC : Hid (Blk (((w4.alloc (.cells #[.int .i64 (n : Int), .slice A2 q2 c2] 52)).setCell ⟨bm, 0, none⟩ (.int .i64 (n : Int))).setCell ⟨bm, 1, none⟩ (.slice A2 q2 c2)) wr.heap.size 56 #[.int .u8 (x0 : Int), .int .i64 u, .int .i64 v]) := Lib.hid (by
    have hb4 : Blk (w4.alloc (.cells #[.int .i64 (n : Int), .slice A2 q2 c2] 52)) wr.heap.size 56 #[.int .u8 (x0 : Int), .int .i64 u, .int .i64 v] := (HB3.out.below HR.out.low HB3.out.lt).alloc _
    have hne : wr.heap.size ≠ bm := hb4.ne_ hbd.box (by decide)
    exact (hb4.farN hne _).farN hne _)
  have b1' : w4.cell? ⟨wr.heap.size, 1, none⟩ = some (.int .i64 u) := (HB3.out.below HR.out.low HB3.out.lt).at_ 1 rfl
  have b2' : w4.cell? ⟨wr.heap.size, 2, none⟩ = some (.int .i64 v) := (HB3.out.below HR.out.low HB3.out.lt).at_ 2 rfl
  clear hR HR HT1 HB3 b1 b2 d0 d1 hbd
  have ebp : (bp == bp) = true := by simp
  have ecp : (cp == cp) = true := by simp
  unfold rv
  go_wp2_with fail
  clear x0' x1' x2' x3' b1' b2' ebp ecp
  generalize ((w4.alloc (.cells #[.int .i64 (n : Int), .slice A2 q2 c2] 52)).setCell ⟨bm, 0, none⟩ (.int .i64 (n : Int))).setCell ⟨bm, 1, none⟩ (.slice A2 q2 c2) = wx at *
  have HCL : Hid (∀ W, Below wx.heap.size wx W → W.cell? ⟨bm, 0, none⟩ = some (.int .i64 (n : Int)) ∧ W.cell? ⟨bm, 1, none⟩ = some (.slice A2 q2 c2) ∧ W.cell? ⟨wr.heap.size, 0, none⟩ = some (.int .u8 (x0 : Int)) ∧ W.cell? ⟨wr.heap.size, 1, none⟩ = some (.int .i64 u) ∧ W.cell? ⟨wr.heap.size, 2, none⟩ = some (.int .i64 v)) := Lib.hid (fun W hW => ⟨(HT.out.box.below hW HT.out.box.lt).at_ 0 rfl, (HT.out.box.below hW HT.out.box.lt).at_ 1 rfl, (HBC.out.below hW HBC.out.lt).at_ 0 rfl, (HBC.out.below hW HBC.out.lt).at_ 1 rfl, (HBC.out.below hW HBC.out.lt).at_ 2 rfl⟩)
  have hS : Below wx.heap.size wx wx.drew := (Below.refl _ wx).drew
  refine wp_region_heldG [] (fun _ W => Below wx.heap.size wx W) (by kernel_rfl) ?_
  change wpAnyG _ _ _ _ _ _ 32 _ _ wx.drew
  refine g_take (i := 0) rfl rfl (by kernel_rfl) (by kernel_rfl) (by kernel_rfl) (by kernel_rfl) (by kernel_rfl) (fun _ _ _ h => HQ.out _ _ _ _ _ h) hS (fun L' W hL hW => by go_simp; rfl) ?_
  refine g_take (i := 1) rfl rfl (by kernel_rfl) (by kernel_rfl) (by kernel_rfl) (by kernel_rfl) (by kernel_rfl) (fun _ _ _ h => HQ.out _ _ _ _ _ h) hS (fun L' W hL hW => by go_simp; rfl) ?_
  refine g_take (i := 2) rfl rfl (by kernel_rfl) (by kernel_rfl) (by kernel_rfl) (by kernel_rfl) (by kernel_rfl) (fun _ _ _ h => HQ.out _ _ _ _ _ h) hS (fun L' W hL hW => by go_simp; rfl) ?_
  refine g_takeG (i := 3) rfl (by simp only [Region.wanted, yielded]; go_simp) (by kernel_rfl) (by kernel_rfl) (by kernel_rfl) (by kernel_rfl) (by kernel_rfl) (fun _ _ _ h => HQ.out _ _ _ _ _ h) hS (fun L' W hL hW => by go_simp; rfl) ?_
  refine g_takeG (i := 5) rfl (by simp only [Region.wanted, yielded]; go_simp) (by kernel_rfl) (by kernel_rfl) (by kernel_rfl) (by kernel_rfl) (by kernel_rfl) (fun _ _ _ h => HQ.out _ _ _ _ _ h) hS (fun L' W hL hW => by go_simp; rfl) ?_
  refine g_takeG (i := 6) rfl (by simp only [Region.wanted, yielded]; go_simp) (by kernel_rfl) (by kernel_rfl) (by kernel_rfl) (by kernel_rfl) (by kernel_rfl) (fun _ _ _ h => HQ.out _ _ _ _ _ h) hS (fun L' W hL hW => by obtain ⟨k0, k1, k2, k3, k4⟩ := HCL.out _ hW; go_simp; rfl) ?_
  refine g_one (i := 4) rfl (by simp only [Region.wanted, yielded]; go_simp) (by kernel_rfl) fun K hK => ?_
  go_simp
  refine Calls.mono (len_g (HT.out.below hS).gr) ?_
  rintro e w' ⟨rfl, rfl⟩
  refine hK _ _ hS ?_
  clear hK K
  refine g_takeG (i := 7) rfl (by simp only [Region.wanted, yielded]; go_simp) (by kernel_rfl) (by kernel_rfl) (by kernel_rfl) (by kernel_rfl) (by kernel_rfl) (fun _ _ _ h => HQ.out _ _ _ _ _ h) hS (fun L' W hL hW => by go_simp; rfl) ?_
  refine g_take (i := 8) rfl rfl (by kernel_rfl) (by kernel_rfl) (by kernel_rfl) (by kernel_rfl) (by kernel_rfl) (fun _ _ _ h => HQ.out _ _ _ _ _ h) hS (fun L' W hL hW => by go_simp; rfl) ?_
  refine g_take (i := 9) rfl rfl (by kernel_rfl) (by kernel_rfl) (by kernel_rfl) (by kernel_rfl) (by kernel_rfl) (fun _ _ _ h => HQ.out _ _ _ _ _ h) hS (fun L' W hL hW => by go_simp; rfl) ?_
  refine g_takeG (i := 10) rfl (by simp only [Region.wanted, yielded]; go_simp) (by kernel_rfl) (by kernel_rfl) (by kernel_rfl) (by kernel_rfl) (by kernel_rfl) (fun _ _ _ h => HQ.out _ _ _ _ _ h) hS (fun L' W hL hW => by go_simp; rfl) ?_
  refine g_takeG (i := 12) rfl (by simp only [Region.wanted, yielded]; go_simp) (by kernel_rfl) (by kernel_rfl) (by kernel_rfl) (by kernel_rfl) (by kernel_rfl) (fun _ _ _ h => HQ.out _ _ _ _ _ h) hS (fun L' W hL hW => by go_simp; rfl) ?_
  refine g_takeG (i := 13) rfl (by simp only [Region.wanted, yielded]; go_simp) (by kernel_rfl) (by kernel_rfl) (by kernel_rfl) (by kernel_rfl) (by kernel_rfl) (fun _ _ _ h => HQ.out _ _ _ _ _ h) hS (fun L' W hL hW => by obtain ⟨k0, k1, k2, k3, k4⟩ := HCL.out _ hW; go_simp; rfl) ?_
  refine g_one (i := 11) rfl (by simp only [Region.wanted, yielded]; go_simp) (by kernel_rfl) fun K hK => ?_
  go_simp
  refine Calls.mono (edges_any wx.drew _ g n _ (cL n L u v) (HT.out.below hS).gr (HOK2.out.rises (by omega)) (by omega)) ?_
  rintro e w4 ⟨Ae, ce, rfl, B4, O4⟩
  have hS : Below wx.heap.size wx w4 := hS.trans B4
  have HE4 := Lib.hid (EdgesAt.of_own O4)
  rw [← HT.out.len]
  rw [← HT.out.len] at HE4
  refine hK _ _ hS ?_
  clear hK K B4 O4
  refine g_one (i := 14) rfl (by simp only [Region.wanted, yielded]; go_simp) (by kernel_rfl) fun K hK => ?_
  go_simp
  refine Calls.mono (sameEdges_any Ae A2 ce c2 (edgesTo (cL n L u v) n) (edgesTo (cL n L u v) n) q2 q2 HT.out.len HT.out.len HE4.out.2.2.1 HE4.out.2.2.2 w4 HE4.out.1 (HT.out.below hS).edges) ?_
  rintro e w5 ⟨rfl, B5⟩
  rw [decide_eq_true (show edgesTo (cL n L u v) n = edgesTo (cL n L u v) n from rfl)]
  have hS : Below wx.heap.size wx w5 := hS.trans (B5.mono hS.size)
  refine hK _ _ hS ?_
  clear hK K B5 HE4
  refine g_takeG (i := 15) rfl (by simp only [Region.wanted, yielded]; go_simp) (by kernel_rfl) (by kernel_rfl) (by kernel_rfl) (by kernel_rfl) (by kernel_rfl) (fun _ _ _ h => HQ.out _ _ _ _ _ h) hS (fun L' W hL hW => by go_simp; rfl) ?_
  refine g_take (i := 16) rfl rfl (by kernel_rfl) (by kernel_rfl) (by kernel_rfl) (by kernel_rfl) (by kernel_rfl) (fun _ _ _ h => HQ.out _ _ _ _ _ h) hS (fun L' W hL hW => by go_simp; rfl) ?_
  refine g_take (i := 17) rfl rfl (by kernel_rfl) (by kernel_rfl) (by kernel_rfl) (by kernel_rfl) (by kernel_rfl) (fun _ _ _ h => HQ.out _ _ _ _ _ h) hS (fun L' W hL hW => by go_simp; rfl) ?_
  refine g_takeG (i := 18) rfl (by simp only [Region.wanted, yielded]; go_simp) (by kernel_rfl) (by kernel_rfl) (by kernel_rfl) (by kernel_rfl) (by kernel_rfl) (fun _ _ _ h => HQ.out _ _ _ _ _ h) hS (fun L' W hL hW => by go_simp; rfl) ?_
  refine g_takeG (i := 19) rfl (by simp only [Region.wanted, yielded]; go_simp) (by kernel_rfl) (by kernel_rfl) (by kernel_rfl) (by kernel_rfl) (by kernel_rfl) (fun _ _ _ h => HQ.out _ _ _ _ _ h) hS (fun L' W hL hW => by go_simp; rfl) ?_
  refine g_takeG (i := 20) rfl (by simp only [Region.wanted, yielded]; go_simp) (by kernel_rfl) (by kernel_rfl) (by kernel_rfl) (by kernel_rfl) (by kernel_rfl) (fun _ _ _ h => HQ.out _ _ _ _ _ h) hS (fun L' W hL hW => by obtain ⟨k0, k1, k2, k3, k4⟩ := HCL.out _ hW; go_simp; rfl) ?_
  refine g_takeG (i := 21) rfl (by simp only [Region.wanted, yielded]; go_simp) (by kernel_rfl) (by kernel_rfl) (by kernel_rfl) (by kernel_rfl) (by kernel_rfl) (fun _ _ _ h => HQ.out _ _ _ _ _ h) hS (fun L' W hL hW => by go_simp; rfl) ?_
  refine g_takeG (i := 22) rfl (by simp only [Region.wanted, yielded]; go_simp) (by kernel_rfl) (by kernel_rfl) (by kernel_rfl) (by kernel_rfl) (by kernel_rfl) (fun _ _ _ h => HQ.out _ _ _ _ _ h) hS (fun L' W hL hW => by obtain ⟨k0, k1, k2, k3, k4⟩ := HCL.out _ hW; go_simp; rfl) ?_
  refine g_takeG (i := 24) rfl (by simp only [Region.wanted, yielded]; go_simp) (by kernel_rfl) (by kernel_rfl) (by kernel_rfl) (by kernel_rfl) (by kernel_rfl) (fun _ _ _ h => HQ.out _ _ _ _ _ h) hS (fun L' W hL hW => by obtain ⟨k0, k1, k2, k3, k4⟩ := HCL.out _ hW; go_simp; rfl) ?_
  refine g_takeG (i := 25) rfl (by simp only [Region.wanted, yielded]; go_simp) (by kernel_rfl) (by kernel_rfl) (by kernel_rfl) (by kernel_rfl) (by kernel_rfl) (fun _ _ _ h => HQ.out _ _ _ _ _ h) hS (fun L' W hL hW => by go_simp; rfl) ?_
  refine g_takeG (i := 26) rfl (by simp only [Region.wanted, yielded]; go_simp) (by kernel_rfl) (by kernel_rfl) (by kernel_rfl) (by kernel_rfl) (by kernel_rfl) (fun _ _ _ h => HQ.out _ _ _ _ _ h) hS (fun L' W hL hW => by obtain ⟨k0, k1, k2, k3, k4⟩ := HCL.out _ hW; go_simp; rfl) ?_
  refine g_takeG (i := 27) rfl (by simp only [Region.wanted, yielded]; go_simp) (by kernel_rfl) (by kernel_rfl) (by kernel_rfl) (by kernel_rfl) (by kernel_rfl) (fun _ _ _ h => HQ.out _ _ _ _ _ h) hS (fun L' W hL hW => by go_simp; rfl) ?_
  refine g_takeG (i := 28) rfl (by simp only [Region.wanted, yielded]; go_simp) (by kernel_rfl) (by kernel_rfl) (by kernel_rfl) (by kernel_rfl) (by kernel_rfl) (fun _ _ _ h => HQ.out _ _ _ _ _ h) hS (fun L' W hL hW => by obtain ⟨k0, k1, k2, k3, k4⟩ := HCL.out _ hW; go_simp; rfl) ?_
  refine g_one (i := 23) rfl (by simp only [Region.wanted, yielded]; go_simp) (by kernel_rfl) fun K hK => ?_
  go_simp
  refine Calls.mono (has_c (HT.out.below hS).gr HOK2.out (by omega) u v _ rfl) ?_
  rintro e w6 ⟨rfl, B6⟩
  have hS : Below wx.heap.size wx w6 := hS.trans (B6.mono hS.size)
  refine hK _ _ hS ?_
  clear hK K B6
  refine g_one (i := 29) rfl (by simp only [Region.wanted, yielded]; go_simp) (by kernel_rfl) fun K hK => ?_
  go_simp
  refine Calls.mono (refhas_any w6 n A2 q2 c2 (edgesTo (cL n L u v) n) HT.out.len HT.out.cap HT.out.max (HT.out.below hS).edges u v) ?_
  rintro e w7 ⟨rfl, B7⟩
  have hS : Below wx.heap.size wx w7 := hS.trans (B7.mono hS.size)
  rw [show decide ((u, v) ∈ edgesTo (cL n L u v) n) = hasE n (cL n L u v) u v by rw [Bool.eq_iff_iff, decide_eq_true_eq]; exact Gr.mem_has HOK2.out]
  refine hK _ _ hS ?_
  clear hK K B7
  generalize hasE n (cL n L u v) u v = bh at *
  refine g_takeG (i := 30) rfl (by simp only [Region.wanted, yielded]; go_simp) (by kernel_rfl) (by kernel_rfl) (by kernel_rfl) (by kernel_rfl) (by kernel_rfl) (fun _ _ _ h => HQ.out _ _ _ _ _ h) hS (fun L' W hL hW => by go_simp; rfl) ?_
  refine g_take (i := 31) rfl rfl (by kernel_rfl) (by kernel_rfl) (by kernel_rfl) (by kernel_rfl) (by kernel_rfl) (fun _ _ _ h => HQ.out _ _ _ _ _ h) hS (fun L' W hL hW => by go_simp; rfl) ?_
  refine wpAnyG_done (by kernel_rfl) ?_ _
  have HN : Hid (TG w w7 (fun j => F1 j ∧ j < w3.heap.size) g n (cL n L u v) bm n A2 q2 c2 (edgesTo (cL n L u v) n) ∧ OK n (cL n L u v)) := Lib.hid ⟨HT.out.below hS, HOK2.out⟩
  clear hS HCL HT HOK2 HBC
  go_simp
  have ebh : (bh != bh) = false := by simp
  go_wp2_with fail
  go_roundw
  case rel => exact ⟨k + 1, n, (fun j => F1 j ∧ j < w3.heap.size), (cL n L u v), A2, q2, c2, by omega, by go_num, by omega, by omega, HN⟩
  case measure => simp [intOf]; omega

set_option maxRecDepth 1000000 in
set_option maxHeartbeats 16000000 in
theorem round_S {n0 m : Nat} {A : Option Addr} {c : Nat} {l : List (Nat × Int × Int)} {Aa : Option Addr} {ca ma : Nat} {w : World} {g bm : Nat} (hm60 : m ≤ 60) (HI : Hid (CallsAt w w.heap.size A l)) (HM : Hid (m = l.length)) (hmc : m ≤ c) (hcm : c ≤ 2 ^ 63 - 1) {Q0 : Exit → Act → World → Prop} (HQ : Hid (∀ (x : List PanicEntry) (a : Act) (d : Option Tmp) (v : Value) (w : World), Q0 (.panic x) (a.put d v) w → Q0 (.panic x) a w)) {wr : World} {u6 u12 u13 u14 u15 u16 u17 u18 u19 u20 u21 u22 u23 u24 u75 u76 u77 u78 u79 u80 u81 u82 u83 u84 u85 u86 u87 u88 u89 u90 u91 u92 u93 u94 u95 u96 u97 u98 u99 u100 u101 u102 u103 u104 u105 u106 u107 u108 u109 u110 u111 u112 u113 u114 u115 u116 u117 u118 u119 u120 u121 u122 u123 u124 u125 u126 u127 u128 u129 u130 u131 u132 u133 u134 u135 u136 u137 u138 u139 u140 u141 u142 u143 u144 u145 u146 u147 u148 u149 u150 u151 u152 u153 u154 u155 u156 u157 u158 u159 u160 u161 u162 u163 u164 u165 u166 u167 u168 u169 u170 u171 u172 u173 u174 u175 u176 u177 u178 u179 u180 u181 u182 u183 u184 u185 u186 : Value} {k n : Nat} {F : Nat → Prop} {L : List (List Int)} {A9 : Option Addr} {q c9 : Nat} (hk : k ≤ m) (hnk : n ≤ 40 + 5 * k) (hqk : q ≤ k) (HS : Hid (TG w wr F g n L bm n A9 q c9 (edgesTo L n) ∧ OK n L)) (hlt : k < m) (hsel : ∀ h : k < l.length, (l[k]'h).1 ≠ 0 ∧ (l[k]'h).1 ≠ 1 ∧ (5 : Int) < (l[k]'h).2.1 ∧ (l[k]'h).2.1 ≤ 10000) : Code.wp Try.prog tellsBody1 (Exit.then (fun a' w' => (∃ u6 u12 u13 u14 u15 u16 u17 u18 u19 u20 u21 u22 u23 u24 u74 u75 u76 u77 u78 u79 u80 u81 u82 u83 u84 u85 u86 u87 u88 u89 u90 u91 u92 u93 u94 u95 u96 u97 u98 u99 u100 u101 u102 u103 u104 u105 u106 u107 u108 u109 u110 u111 u112 u113 u114 u115 u116 u117 u118 u119 u120 u121 u122 u123 u124 u125 u126 u127 u128 u129 u130 u131 u132 u133 u134 u135 u136 u137 u138 u139 u140 u141 u142 u143 u144 u145 u146 u147 u148 u149 u150 u151 u152 u153 u154 u155 u156 u157 u158 u159 u160 u161 u162 u163 u164 u165 u166 u167 u168 u169 u170 u171 u172 u173 u174 u175 u176 u177 u178 u179 u180 u181 u182 u183 u184 u185 u186 : Value, (∃ (k n : Nat) (F : Nat → Prop) (L : List (List Int)) (A9 : Option Addr) (q c9 : Nat), k ≤ m ∧ u74 = Value.int IntKind.i64 ((k : Nat) : Int) ∧ n ≤ 40 + 5 * k ∧ q ≤ k ∧ Hid (TG w w' F g n L bm n A9 q c9 (edgesTo L n) ∧ OK n L)) ∧ a' = { tmps := #[Value.int IntKind.i64 ((n0 : Nat) : Int), Value.slice A m c, Value.slice Aa ma ca, undef, undef, undef, u6, Value.pointer (some { block := g, off := 0 }), Value.int IntKind.i64 0, Value.pointer (some { block := bm, off := 0 }), Value.int IntKind.i64 0, undef, u12, u13, u14, u15, u16, u17, u18, u19, u20, u21, u22, u23, u24, undef, undef, undef, undef, undef, undef, undef, Value.tuple #[Value.pointer (some { block := g, off := 0 }), Value.int IntKind.i64 0], Value.int IntKind.i64 ((n0 : Nat) : Int), Value.tuple #[Value.pointer (some { block := g, off := 0 }), Value.int IntKind.i64 0], Value.pointer (some { block := g, off := 0 }), Value.int IntKind.i64 0, Value.tuple #[Value.agg #[Value.int IntKind.i64 ((n0 : Nat) : Int), Value.slice none 0 0], Value.int IntKind.i64 0], Value.int IntKind.i64 ((n0 : Nat) : Int), Value.tuple #[Value.agg #[Value.int IntKind.i64 ((n0 : Nat) : Int), Value.slice none 0 0], Value.int IntKind.i64 0], Value.agg #[Value.int IntKind.i64 ((n0 : Nat) : Int), Value.slice none 0 0], Value.int IntKind.i64 0, Value.int IntKind.i64 0, Value.int IntKind.i64 0, Value.bool false, Value.bool false, Value.int IntKind.i64 0, Value.bool false, Value.bool false, undef, undef, Value.bool false, Value.bool false, Value.int IntKind.i64 0, Value.bool false, Value.bool false, Value.int IntKind.i64 ((n0 : Nat) : Int), Value.bool (decide (40 < ((n0 : Nat) : Int))), Value.bool (decide (40 < ((n0 : Nat) : Int))), Value.bool (decide (40 < ((n0 : Nat) : Int))), Value.slice A m c, Value.int IntKind.i64 ((m : Nat) : Int), Value.bool (decide (60 < ((m : Nat) : Int))), Value.bool (decide (40 < ((n0 : Nat) : Int)) || decide (60 < ((m : Nat) : Int))), undef, undef, undef, undef, undef, undef, undef, undef, Value.slice A m c, Value.int IntKind.i64 ((m : Nat) : Int), u74, u75, u76, u77, u78, u79, u80, u81, u82, u83, u84, u85, u86, u87, u88, u89, u90, u91, u92, u93, u94, u95, u96, u97, u98, u99, u100, u101, u102, u103, u104, u105, u106, u107, u108, u109, u110, u111, u112, u113, u114, u115, u116, u117, u118, u119, u120, u121, u122, u123, u124, u125, u126, u127, u128, u129, u130, u131, u132, u133, u134, u135, u136, u137, u138, u139, u140, u141, u142, u143, u144, u145, u146, u147, u148, u149, u150, u151, u152, u153, u154, u155, u156, u157, u158, u159, u160, u161, u162, u163, u164, u165, u166, u167, u168, u169, u170, u171, u172, u173, u174, u175, u176, u177, u178, u179, u180, u181, u182, u183, u184, u185, u186, undef, undef, undef, undef, undef, undef, undef, undef, undef, undef, undef, undef, undef, undef, undef, undef, undef, undef, undef, undef, undef, undef, undef, undef, undef, undef, undef, undef, undef, undef, undef, undef, undef, undef, undef, undef, undef, undef, undef, undef, undef, undef, undef, undef, undef, undef, undef, undef, undef, undef, undef, undef, undef, undef, undef, undef, undef, undef, undef, undef, undef, undef, undef, undef, undef, undef, undef, undef, undef, undef, undef, undef, undef, undef, undef, undef, undef, undef, undef], defers := [] }) ∧ m - (intOf (a'.tmps.getD 74 undef)).toNat < m - (intOf (#[Value.int IntKind.i64 ((n0 : Nat) : Int), Value.slice A m c, Value.slice Aa ma ca, undef, undef, undef, u6, Value.pointer (some { block := g, off := 0 }), Value.int IntKind.i64 0, Value.pointer (some { block := bm, off := 0 }), Value.int IntKind.i64 0, undef, u12, u13, u14, u15, u16, u17, u18, u19, u20, u21, u22, u23, u24, undef, undef, undef, undef, undef, undef, undef, Value.tuple #[Value.pointer (some { block := g, off := 0 }), Value.int IntKind.i64 0], Value.int IntKind.i64 ((n0 : Nat) : Int), Value.tuple #[Value.pointer (some { block := g, off := 0 }), Value.int IntKind.i64 0], Value.pointer (some { block := g, off := 0 }), Value.int IntKind.i64 0, Value.tuple #[Value.agg #[Value.int IntKind.i64 ((n0 : Nat) : Int), Value.slice none 0 0], Value.int IntKind.i64 0], Value.int IntKind.i64 ((n0 : Nat) : Int), Value.tuple #[Value.agg #[Value.int IntKind.i64 ((n0 : Nat) : Int), Value.slice none 0 0], Value.int IntKind.i64 0], Value.agg #[Value.int IntKind.i64 ((n0 : Nat) : Int), Value.slice none 0 0], Value.int IntKind.i64 0, Value.int IntKind.i64 0, Value.int IntKind.i64 0, Value.bool false, Value.bool false, Value.int IntKind.i64 0, Value.bool false, Value.bool false, undef, undef, Value.bool false, Value.bool false, Value.int IntKind.i64 0, Value.bool false, Value.bool false, Value.int IntKind.i64 ((n0 : Nat) : Int), Value.bool (decide (40 < ((n0 : Nat) : Int))), Value.bool (decide (40 < ((n0 : Nat) : Int))), Value.bool (decide (40 < ((n0 : Nat) : Int))), Value.slice A m c, Value.int IntKind.i64 ((m : Nat) : Int), Value.bool (decide (60 < ((m : Nat) : Int))), Value.bool (decide (40 < ((n0 : Nat) : Int)) || decide (60 < ((m : Nat) : Int))), undef, undef, undef, undef, undef, undef, undef, undef, Value.slice A m c, Value.int IntKind.i64 ((m : Nat) : Int), (Value.int IntKind.i64 (k : Int)), u75, u76, u77, u78, u79, u80, u81, u82, u83, u84, u85, u86, u87, u88, u89, u90, u91, u92, u93, u94, u95, u96, u97, u98, u99, u100, u101, u102, u103, u104, u105, u106, u107, u108, u109, u110, u111, u112, u113, u114, u115, u116, u117, u118, u119, u120, u121, u122, u123, u124, u125, u126, u127, u128, u129, u130, u131, u132, u133, u134, u135, u136, u137, u138, u139, u140, u141, u142, u143, u144, u145, u146, u147, u148, u149, u150, u151, u152, u153, u154, u155, u156, u157, u158, u159, u160, u161, u162, u163, u164, u165, u166, u167, u168, u169, u170, u171, u172, u173, u174, u175, u176, u177, u178, u179, u180, u181, u182, u183, u184, u185, u186, undef, undef, undef, undef, undef, undef, undef, undef, undef, undef, undef, undef, undef, undef, undef, undef, undef, undef, undef, undef, undef, undef, undef, undef, undef, undef, undef, undef, undef, undef, undef, undef, undef, undef, undef, undef, undef, undef, undef, undef, undef, undef, undef, undef, undef, undef, undef, undef, undef, undef, undef, undef, undef, undef, undef, undef, undef, undef, undef, undef, undef, undef, undef, undef, undef, undef, undef, undef, undef, undef, undef, undef, undef, undef, undef, undef, undef, undef, undef].getD 74 undef)).toNat) Q0) ⟨#[Value.int IntKind.i64 ((n0 : Nat) : Int), Value.slice A m c, Value.slice Aa ma ca, undef, undef, undef, u6, Value.pointer (some { block := g, off := 0 }), Value.int IntKind.i64 0, Value.pointer (some { block := bm, off := 0 }), Value.int IntKind.i64 0, undef, u12, u13, u14, u15, u16, u17, u18, u19, u20, u21, u22, u23, u24, undef, undef, undef, undef, undef, undef, undef, Value.tuple #[Value.pointer (some { block := g, off := 0 }), Value.int IntKind.i64 0], Value.int IntKind.i64 ((n0 : Nat) : Int), Value.tuple #[Value.pointer (some { block := g, off := 0 }), Value.int IntKind.i64 0], Value.pointer (some { block := g, off := 0 }), Value.int IntKind.i64 0, Value.tuple #[Value.agg #[Value.int IntKind.i64 ((n0 : Nat) : Int), Value.slice none 0 0], Value.int IntKind.i64 0], Value.int IntKind.i64 ((n0 : Nat) : Int), Value.tuple #[Value.agg #[Value.int IntKind.i64 ((n0 : Nat) : Int), Value.slice none 0 0], Value.int IntKind.i64 0], Value.agg #[Value.int IntKind.i64 ((n0 : Nat) : Int), Value.slice none 0 0], Value.int IntKind.i64 0, Value.int IntKind.i64 0, Value.int IntKind.i64 0, Value.bool false, Value.bool false, Value.int IntKind.i64 0, Value.bool false, Value.bool false, undef, undef, Value.bool false, Value.bool false, Value.int IntKind.i64 0, Value.bool false, Value.bool false, Value.int IntKind.i64 ((n0 : Nat) : Int), Value.bool (decide (40 < ((n0 : Nat) : Int))), Value.bool (decide (40 < ((n0 : Nat) : Int))), Value.bool (decide (40 < ((n0 : Nat) : Int))), Value.slice A m c, Value.int IntKind.i64 ((m : Nat) : Int), Value.bool (decide (60 < ((m : Nat) : Int))), Value.bool (decide (40 < ((n0 : Nat) : Int)) || decide (60 < ((m : Nat) : Int))), undef, undef, undef, undef, undef, undef, undef, undef, Value.slice A m c, Value.int IntKind.i64 ((m : Nat) : Int), (Value.int IntKind.i64 (k : Int)), u75, u76, u77, u78, u79, u80, u81, u82, u83, u84, u85, u86, u87, u88, u89, u90, u91, u92, u93, u94, u95, u96, u97, u98, u99, u100, u101, u102, u103, u104, u105, u106, u107, u108, u109, u110, u111, u112, u113, u114, u115, u116, u117, u118, u119, u120, u121, u122, u123, u124, u125, u126, u127, u128, u129, u130, u131, u132, u133, u134, u135, u136, u137, u138, u139, u140, u141, u142, u143, u144, u145, u146, u147, u148, u149, u150, u151, u152, u153, u154, u155, u156, u157, u158, u159, u160, u161, u162, u163, u164, u165, u166, u167, u168, u169, u170, u171, u172, u173, u174, u175, u176, u177, u178, u179, u180, u181, u182, u183, u184, u185, u186, undef, undef, undef, undef, undef, undef, undef, undef, undef, undef, undef, undef, undef, undef, undef, undef, undef, undef, undef, undef, undef, undef, undef, undef, undef, undef, undef, undef, undef, undef, undef, undef, undef, undef, undef, undef, undef, undef, undef, undef, undef, undef, undef, undef, undef, undef, undef, undef, undef, undef, undef, undef, undef, undef, undef, undef, undef, undef, undef, undef, undef, undef, undef, undef, undef, undef, undef, undef, undef, undef, undef, undef, undef, undef, undef, undef, undef, undef, undef], []⟩ wr := by
  conv => arg 2; whnf
  have hkl : k < l.length := by have := HM.out; omega
  obtain ⟨b, off, rfl, hb, p1, p2, p3, h256⟩ := HI.out k hkl
  have q1 := (HS.out.1.low.cell (p := ⟨b, _, none⟩) hb).trans p1
  have q2' := (HS.out.1.low.cell (p := ⟨b, _, none⟩) hb).trans p2
  have q3 := (HS.out.1.low.cell (p := ⟨b, _, none⟩) hb).trans p3
  have hsel := hsel hkl
  generalize l[k] = x at *
  obtain ⟨x0, u, v⟩ := x
  have i1 : (0 : Int) ≤ (k : Int) := by omega
  have i2 : (k : Int) < (m : Int) := by omega
  have HBX := Lib.hid (Blk.new_ wr 56 #[.int .u8 (x0 : Int), .int .i64 u, .int .i64 v] rfl)
  have HTa := Lib.hid (HS.out.1.exist.below ((Below.refl _ wr).alloc (Nat.le_refl _) (.cells #[.int .u8 (x0 : Int), .int .i64 u, .int .i64 v] 56)))
  have HOK := Lib.hid HS.out.2
  have a0 := HBX.out.at_ 0 rfl
  have a1 := HBX.out.at_ 1 rfl
  have a2 := HBX.out.at_ 2 rfl
  clear p1 p2 p3 hb hkl HS

  have f0 : ((x0 : Int) == 0) = false := by rw [beq_eq_false_iff_ne]; have : x0 ≠ 0 := hsel.1; omega
  have f1 : ((x0 : Int) == 1) = false := by rw [beq_eq_false_iff_ne]; have : x0 ≠ 1 := hsel.2.1; omega
  have hu5 : (5 : Int) < u := hsel.2.2.1
  have hu9 : u ≤ 10000 := hsel.2.2.2
  clear hsel
  have HN : Hid (TG w (wr.alloc (.cells #[.int .u8 (x0 : Int), .int .i64 u, .int .i64 v] 56)) (fun k => F k ∧ k < wr.heap.size) g n L bm n A9 q c9 (edgesTo L n) ∧ OK n L) := Lib.hid ⟨HTa.out, HOK.out⟩
  clear HTa HBX HOK
  go_wp2_with fail
  go_roundw
  case rel => exact ⟨k + 1, n, _, L, A9, q, c9, by omega, by go_num, by omega, by omega, HN⟩
  case measure => simp [intOf]; omega

end Go.Proofs.Ytclbpohhmaojcaa.GrW
