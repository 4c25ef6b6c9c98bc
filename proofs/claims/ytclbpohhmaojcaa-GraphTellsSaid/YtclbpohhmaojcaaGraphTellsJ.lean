/-
  A case of a round of GraphTells: J, K.
-/
import Derived.Test.YtclbpohhmaojcaaGraphTellsA
namespace Go.Proofs.Ytclbpohhmaojcaa.GrW
set_option linter.unusedVariables false
open Go Go.RowKit Go.Proofs Go.Proofs.Ytclbpohhmaojcaa Go.Proofs.Ytclbpohhmaojcaa.Wd
open Go.Proofs.Ytclbpohhmaojcaa.Gr (OK ofL IsR outs intos ev edgesTo putL cutL)

set_option maxRecDepth 1000000 in
set_option maxHeartbeats 16000000 in
theorem round_J {n0 : Nat} {A : Option Addr} {c : Nat} {Aa : Option Addr} {ca ma : Nat} {la : List Int} {w : World} {g bm k n : Nat} {F : Nat → Prop} {L : List (List Int)} {A9 : Option Addr} {q c9 : Nat} {As At : Option Addr} {cs ct : Nat} {lo : List Int} {bo : Bool} {R : Int → Int → Bool} {m2 : Nat} {w5 : World} (hk : k ≤ 60) (hnk : n ≤ 40 + 5 * k) (hqk : q ≤ k) (hmca : ma ≤ ca) (hcma : ca ≤ 2 ^ 63 - 1) (HJ : Hid (Nums w w.heap.size Aa la)) (HMA : Hid (ma = la.length)) (HOK : Hid (OK n L)) (HT5 : Hid (TG w w5 F g n L bm n A9 q c9 (edgesTo L n))) (HR : Hid (IsR n L R)) (hmc2 : (m2 : Int) ≤ (ca : Int)) (hm12 : m2 ≤ 12) (hmn2 : m2 ≤ ma) {Q0 : Exit → Act → World → Prop} (HQ : Hid (∀ (x : List PanicEntry) (a : Act) (d : Option Tmp) (v : Value) (w : World), Q0 (.panic x) (a.put d v) w → Q0 (.panic x) a w)) {wr : World} {u6 u12 u13 u14 u15 u16 u17 u18 u19 u20 u21 u22 u23 u24 u29 u30 u31 u32 u33 u34 u35 u36 u37 u38 u39 u40 u41 u42 u43 u44 u45 u46 u47 u48 u49 u50 u51 u52 u53 u54 u55 u56 u57 u58 u59 u60 u61 u62 u63 u64 u65 u66 u67 u68 u69 u70 u71 u75 u76 u77 u78 u79 u80 u81 u82 u83 u84 u85 u86 u87 u88 u89 u90 u91 u92 u93 u94 u95 u96 u97 u98 u99 u100 u101 u102 u103 u104 u105 u106 u107 u108 u109 u110 u111 u112 u113 u114 u115 u116 u117 u118 u119 u120 u121 u122 u123 u124 u125 u126 u127 u128 u129 u130 u131 u132 u133 u134 u135 u136 u137 u138 u139 u140 u141 u142 u143 u144 u145 u146 u147 u148 u149 u150 u151 u152 u153 u154 u155 u156 u157 u158 u159 u160 u161 u162 u163 u164 u165 u166 u167 u168 u169 u170 u171 u172 u173 u174 u175 u176 u177 u178 u179 u180 u181 u182 u183 u184 u185 u186 u187 u188 u189 u190 u191 u192 u193 u194 u195 u196 u197 u198 u199 u200 u201 u202 u203 u204 u205 u206 u207 u208 u209 u213 u214 u215 u216 u217 u218 u219 u220 u221 u222 u223 u224 u225 u226 u227 u228 u229 u230 u231 u232 u233 u234 u235 u236 u237 u238 u239 u240 u241 u242 u243 u244 u245 u246 u247 u248 u249 u250 u251 u252 u253 u254 u255 u256 u257 u258 u259 u260 u261 u262 u263 u264 u265 : Value} {j : Nat} (hj : j ≤ m2) (HB : Hid (Below w5.heap.size w5 wr)) (hlt2 : j < m2) (hj0 : j = 0) : Code.wp Try.prog tellsBody2 (Exit.then (fun a' w' => (∃ u6 u29 u30 u31 u212 u213 u214 u215 u216 u217 u218 u219 u220 u221 u222 u223 u224 u225 u226 u227 u228 u229 u230 u231 u232 u233 u234 u235 u236 u237 u238 u239 u240 u241 u242 u243 u244 u245 u246 u247 u248 u249 u250 u251 u252 u253 u254 u255 u256 u257 u258 u259 u260 u261 u262 u263 u264 : Value, (∃ j : Nat, j ≤ m2 ∧ u212 = Value.int IntKind.i64 ((j : Nat) : Int) ∧ Hid (Below w5.heap.size w5 w')) ∧ a' = { tmps := #[Value.int IntKind.i64 ((n0 : Nat) : Int), Value.slice A k c, Value.slice Aa ma ca, undef, undef, undef, u6, Value.pointer (some { block := g, off := 0 }), Value.int IntKind.i64 0, Value.pointer (some { block := bm, off := 0 }), Value.int IntKind.i64 0, undef, u12, u13, u14, u15, u16, u17, u18, u19, u20, u21, u22, u23, u24, Value.slice As lo.length cs, Value.bool bo, Value.slice At lo.length ct, Value.bool bo, u29, u30, u31, u32, u33, u34, u35, u36, u37, u38, u39, u40, u41, u42, u43, u44, u45, u46, u47, u48, u49, u50, u51, u52, u53, u54, u55, u56, u57, u58, u59, u60, u61, u62, u63, u64, u65, u66, u67, u68, u69, u70, u71, Value.slice A k c, Value.int IntKind.i64 ((k : Nat) : Int), Value.int IntKind.i64 ((k : Nat) : Int), u75, u76, u77, u78, u79, u80, u81, u82, u83, u84, u85, u86, u87, u88, u89, u90, u91, u92, u93, u94, u95, u96, u97, u98, u99, u100, u101, u102, u103, u104, u105, u106, u107, u108, u109, u110, u111, u112, u113, u114, u115, u116, u117, u118, u119, u120, u121, u122, u123, u124, u125, u126, u127, u128, u129, u130, u131, u132, u133, u134, u135, u136, u137, u138, u139, u140, u141, u142, u143, u144, u145, u146, u147, u148, u149, u150, u151, u152, u153, u154, u155, u156, u157, u158, u159, u160, u161, u162, u163, u164, u165, u166, u167, u168, u169, u170, u171, u172, u173, u174, u175, u176, u177, u178, u179, u180, u181, u182, u183, u184, u185, u186, u187, u188, u189, u190, u191, u192, u193, u194, u195, u196, u197, u198, u199, u200, u201, u202, u203, u204, u205, u206, u207, u208, u209, Value.slice Aa m2 ca, Value.int IntKind.i64 ((m2 : Nat) : Int), u212, u213, u214, u215, u216, u217, u218, u219, u220, u221, u222, u223, u224, u225, u226, u227, u228, u229, u230, u231, u232, u233, u234, u235, u236, u237, u238, u239, u240, u241, u242, u243, u244, u245, u246, u247, u248, u249, u250, u251, u252, u253, u254, u255, u256, u257, u258, u259, u260, u261, u262, u263, u264, u265], defers := [] }) ∧ m2 - (intOf (a'.tmps.getD 212 undef)).toNat < m2 - (intOf (#[Value.int IntKind.i64 ((n0 : Nat) : Int), Value.slice A k c, Value.slice Aa ma ca, undef, undef, undef, u6, Value.pointer (some { block := g, off := 0 }), Value.int IntKind.i64 0, Value.pointer (some { block := bm, off := 0 }), Value.int IntKind.i64 0, undef, u12, u13, u14, u15, u16, u17, u18, u19, u20, u21, u22, u23, u24, Value.slice As lo.length cs, Value.bool bo, Value.slice At lo.length ct, Value.bool bo, u29, u30, u31, u32, u33, u34, u35, u36, u37, u38, u39, u40, u41, u42, u43, u44, u45, u46, u47, u48, u49, u50, u51, u52, u53, u54, u55, u56, u57, u58, u59, u60, u61, u62, u63, u64, u65, u66, u67, u68, u69, u70, u71, Value.slice A k c, Value.int IntKind.i64 ((k : Nat) : Int), Value.int IntKind.i64 ((k : Nat) : Int), u75, u76, u77, u78, u79, u80, u81, u82, u83, u84, u85, u86, u87, u88, u89, u90, u91, u92, u93, u94, u95, u96, u97, u98, u99, u100, u101, u102, u103, u104, u105, u106, u107, u108, u109, u110, u111, u112, u113, u114, u115, u116, u117, u118, u119, u120, u121, u122, u123, u124, u125, u126, u127, u128, u129, u130, u131, u132, u133, u134, u135, u136, u137, u138, u139, u140, u141, u142, u143, u144, u145, u146, u147, u148, u149, u150, u151, u152, u153, u154, u155, u156, u157, u158, u159, u160, u161, u162, u163, u164, u165, u166, u167, u168, u169, u170, u171, u172, u173, u174, u175, u176, u177, u178, u179, u180, u181, u182, u183, u184, u185, u186, u187, u188, u189, u190, u191, u192, u193, u194, u195, u196, u197, u198, u199, u200, u201, u202, u203, u204, u205, u206, u207, u208, u209, Value.slice Aa m2 ca, Value.int IntKind.i64 ((m2 : Nat) : Int), (Value.int IntKind.i64 (j : Int)), u213, u214, u215, u216, u217, u218, u219, u220, u221, u222, u223, u224, u225, u226, u227, u228, u229, u230, u231, u232, u233, u234, u235, u236, u237, u238, u239, u240, u241, u242, u243, u244, u245, u246, u247, u248, u249, u250, u251, u252, u253, u254, u255, u256, u257, u258, u259, u260, u261, u262, u263, u264, u265].getD 212 undef)).toNat) Q0) ⟨#[Value.int IntKind.i64 ((n0 : Nat) : Int), Value.slice A k c, Value.slice Aa ma ca, undef, undef, undef, u6, Value.pointer (some { block := g, off := 0 }), Value.int IntKind.i64 0, Value.pointer (some { block := bm, off := 0 }), Value.int IntKind.i64 0, undef, u12, u13, u14, u15, u16, u17, u18, u19, u20, u21, u22, u23, u24, Value.slice As lo.length cs, Value.bool bo, Value.slice At lo.length ct, Value.bool bo, u29, u30, u31, u32, u33, u34, u35, u36, u37, u38, u39, u40, u41, u42, u43, u44, u45, u46, u47, u48, u49, u50, u51, u52, u53, u54, u55, u56, u57, u58, u59, u60, u61, u62, u63, u64, u65, u66, u67, u68, u69, u70, u71, Value.slice A k c, Value.int IntKind.i64 ((k : Nat) : Int), Value.int IntKind.i64 ((k : Nat) : Int), u75, u76, u77, u78, u79, u80, u81, u82, u83, u84, u85, u86, u87, u88, u89, u90, u91, u92, u93, u94, u95, u96, u97, u98, u99, u100, u101, u102, u103, u104, u105, u106, u107, u108, u109, u110, u111, u112, u113, u114, u115, u116, u117, u118, u119, u120, u121, u122, u123, u124, u125, u126, u127, u128, u129, u130, u131, u132, u133, u134, u135, u136, u137, u138, u139, u140, u141, u142, u143, u144, u145, u146, u147, u148, u149, u150, u151, u152, u153, u154, u155, u156, u157, u158, u159, u160, u161, u162, u163, u164, u165, u166, u167, u168, u169, u170, u171, u172, u173, u174, u175, u176, u177, u178, u179, u180, u181, u182, u183, u184, u185, u186, u187, u188, u189, u190, u191, u192, u193, u194, u195, u196, u197, u198, u199, u200, u201, u202, u203, u204, u205, u206, u207, u208, u209, Value.slice Aa m2 ca, Value.int IntKind.i64 ((m2 : Nat) : Int), (Value.int IntKind.i64 (j : Int)), u213, u214, u215, u216, u217, u218, u219, u220, u221, u222, u223, u224, u225, u226, u227, u228, u229, u230, u231, u232, u233, u234, u235, u236, u237, u238, u239, u240, u241, u242, u243, u244, u245, u246, u247, u248, u249, u250, u251, u252, u253, u254, u255, u256, u257, u258, u259, u260, u261, u262, u263, u264, u265], []⟩ wr := by
  conv => arg 2; whnf
  have hja : j < la.length := by have := HMA.out; omega
  have h0a : 0 < la.length := by omega
  obtain ⟨b, off, rfl, hb, p1⟩ := HJ.out.at_ hja
  obtain ⟨b', off', hAA, hb', p0⟩ := HJ.out.at_ h0a
  have hAA' : b = b' ∧ off = off' := by
    simp only [Option.some.injEq, Addr.mk.injEq, and_true] at hAA
    exact hAA
  obtain ⟨rfl, rfl⟩ := hAA'
  have hlow := HT5.out.low.trans (HB.out.mono HT5.out.low.size)
  have q1 := (hlow.cell (p := ⟨b, _, none⟩) hb).trans p1
  have q0 : wr.cell? ⟨b, off, none⟩ = some (.int .i64 la[0]) := (hlow.cell (p := ⟨b, off + 0, none⟩) hb').trans p0
  generalize la[j] = av at *
  generalize la[0] = au at *
  have HT := Lib.hid (HT5.out.below HB.out)
  have i1 : (0 : Int) ≤ (j : Int) := by omega
  have i2 : (j : Int) < (m2 : Int) := by omega
  have i3 : (0 : Int) < (ma : Int) := by omega
  clear p1 p0 hb hb' hAA hlow hja h0a
  generalize hWX : wr = wx at *
  clear hWX

  have dj : decide (0 < j) = false := decide_eq_false (by omega)
  have dj2 : ¬ (0 : Int) < (j : Int) := by omega
  clear hj0
  go_wp2_with fail
  clear q0 q1
  have HCL : Hid (∀ W, Below wx.heap.size wx W → W.cell? ⟨bm, 0, none⟩ = some (.int .i64 (n : Int)) ∧ W.cell? ⟨bm, 1, none⟩ = some (.slice A9 q c9)) := Lib.hid (fun W hW => ⟨(HT.out.box.below hW HT.out.box.lt).at_ 0 rfl, (HT.out.box.below hW HT.out.box.lt).at_ 1 rfl⟩)
  have hS : Below wx.heap.size wx wx.drew := (Below.refl _ wx).drew
  refine wp_region_heldG [] (fun _ W => Below wx.heap.size wx W) (by kernel_rfl) ?_
  change wpAnyG _ _ _ _ _ _ 44 _ _ wx.drew
  refine g_take (i := 0) rfl rfl (by kernel_rfl) (by kernel_rfl) (by kernel_rfl) (by kernel_rfl) (by kernel_rfl) (fun _ _ _ h => HQ.out _ _ _ _ _ h) hS (fun L' W hL hW => by go_simp; rfl) ?_
  refine g_take (i := 1) rfl rfl (by kernel_rfl) (by kernel_rfl) (by kernel_rfl) (by kernel_rfl) (by kernel_rfl) (fun _ _ _ h => HQ.out _ _ _ _ _ h) hS (fun L' W hL hW => by go_simp; rfl) ?_
  refine g_take (i := 3) rfl rfl (by kernel_rfl) (by kernel_rfl) (by kernel_rfl) (by kernel_rfl) (by kernel_rfl) (fun _ _ _ h => HQ.out _ _ _ _ _ h) hS (fun L' W hL hW => by obtain ⟨k0, k1⟩ := HCL.out _ hW; go_simp; rfl) ?_
  refine g_take (i := 4) rfl rfl (by kernel_rfl) (by kernel_rfl) (by kernel_rfl) (by kernel_rfl) (by kernel_rfl) (fun _ _ _ h => HQ.out _ _ _ _ _ h) hS (fun L' W hL hW => by go_simp; rfl) ?_
  refine g_one (i := 2) rfl rfl (by kernel_rfl) fun K hK => ?_
  go_simp
  refine Calls.mono (out_c (HT.out.below hS).gr (HOK.out.rises (by omega)) av _ rfl _ rfl) ?_
  rintro e w4 ⟨Ao, co, rfl, O4, B4⟩
  have HO4 := Lib.hid O4
  have hS : Below wx.heap.size wx w4 := hS.trans B4
  refine hK _ _ hS ?_
  clear hK K B4 O4
  refine g_one (i := 5) rfl rfl (by kernel_rfl) fun K hK => ?_
  go_simp
  refine Calls.mono (refout_any w4 n A9 q c9 (edgesTo L n) HT.out.len HT.out.cap HT.out.max (by omega) (HT.out.below hS).edges av) ?_
  intro e w5 h5
  rw [Gr.tells_out HOK.out] at h5
  obtain ⟨Ap, cp5, rfl, O5, B5⟩ := h5.c rfl rfl
  have HO4' := Lib.hid (own_belowW HO4.out B5)
  have HO5 := Lib.hid O5
  have hS : Below wx.heap.size wx w5 := hS.trans (B5.mono hS.size)
  refine hK _ _ hS ?_
  clear hK K h5 B5 O5 HO4
  refine g_one (i := 6) rfl rfl (by kernel_rfl) fun K hK => ?_
  go_simp
  refine Calls.mono (ints_own HO4'.out HO5.out) ?_
  rintro e w6 ⟨rfl, B6⟩
  rw [decide_eq_true (show outE n L av = outE n L av from rfl)]
  have hS : Below wx.heap.size wx w6 := hS.trans (B6.mono hS.size)
  refine hK _ _ hS ?_
  clear hK K B6 HO4' HO5
  refine g_take (i := 7) rfl rfl (by kernel_rfl) (by kernel_rfl) (by kernel_rfl) (by kernel_rfl) (by kernel_rfl) (fun _ _ _ h => HQ.out _ _ _ _ _ h) hS (fun L' W hL hW => by go_simp; rfl) ?_
  refine g_take (i := 8) rfl rfl (by kernel_rfl) (by kernel_rfl) (by kernel_rfl) (by kernel_rfl) (by kernel_rfl) (fun _ _ _ h => HQ.out _ _ _ _ _ h) hS (fun L' W hL hW => by go_simp; rfl) ?_
  refine g_takeG (i := 9) rfl (by simp only [Region.wanted, yielded]; go_simp) (by kernel_rfl) (by kernel_rfl) (by kernel_rfl) (by kernel_rfl) (by kernel_rfl) (fun _ _ _ h => HQ.out _ _ _ _ _ h) hS (fun L' W hL hW => by go_simp; rfl) ?_
  refine g_takeG (i := 10) rfl (by simp only [Region.wanted, yielded]; go_simp) (by kernel_rfl) (by kernel_rfl) (by kernel_rfl) (by kernel_rfl) (by kernel_rfl) (fun _ _ _ h => HQ.out _ _ _ _ _ h) hS (fun L' W hL hW => by go_simp; rfl) ?_
  refine g_takeG (i := 12) rfl (by simp only [Region.wanted, yielded]; go_simp) (by kernel_rfl) (by kernel_rfl) (by kernel_rfl) (by kernel_rfl) (by kernel_rfl) (fun _ _ _ h => HQ.out _ _ _ _ _ h) hS (fun L' W hL hW => by obtain ⟨k0, k1⟩ := HCL.out _ hW; go_simp; rfl) ?_
  refine g_takeG (i := 13) rfl (by simp only [Region.wanted, yielded]; go_simp) (by kernel_rfl) (by kernel_rfl) (by kernel_rfl) (by kernel_rfl) (by kernel_rfl) (fun _ _ _ h => HQ.out _ _ _ _ _ h) hS (fun L' W hL hW => by go_simp; rfl) ?_
  refine g_one (i := 11) rfl (by simp only [Region.wanted, yielded]; go_simp) (by kernel_rfl) fun K hK => ?_
  go_simp
  refine Calls.mono (into_c (HT.out.below hS).gr (HOK.out.rises (by omega)) av _ rfl _ rfl) ?_
  rintro e w7 ⟨Ao, co, rfl, O4, B4⟩
  have HO4 := Lib.hid O4
  have hS : Below wx.heap.size wx w7 := hS.trans (B4.mono hS.size)
  refine hK _ _ hS ?_
  clear hK K B4 O4
  refine g_one (i := 14) rfl (by simp only [Region.wanted, yielded]; go_simp) (by kernel_rfl) fun K hK => ?_
  go_simp
  refine Calls.mono (refin_any w7 n A9 q c9 (edgesTo L n) HT.out.len HT.out.cap HT.out.max (by omega) (HT.out.below hS).edges av) ?_
  intro e w8 h5
  rw [Gr.tells_in HOK.out] at h5
  obtain ⟨Ap, cp5, rfl, O5, B5⟩ := h5.c rfl rfl
  have HO4' := Lib.hid (own_belowW HO4.out B5)
  have HO5 := Lib.hid O5
  have hS : Below wx.heap.size wx w8 := hS.trans (B5.mono hS.size)
  refine hK _ _ hS ?_
  clear hK K h5 B5 O5 HO4
  refine g_one (i := 15) rfl (by simp only [Region.wanted, yielded]; go_simp) (by kernel_rfl) fun K hK => ?_
  go_simp
  refine Calls.mono (ints_own HO4'.out HO5.out) ?_
  rintro e w9 ⟨rfl, B6⟩
  rw [decide_eq_true (show intoE n L av = intoE n L av from rfl)]
  have hS : Below wx.heap.size wx w9 := hS.trans (B6.mono hS.size)
  refine hK _ _ hS ?_
  clear hK K B6 HO4' HO5
  refine g_takeG (i := 16) rfl (by simp only [Region.wanted, yielded]; go_simp) (by kernel_rfl) (by kernel_rfl) (by kernel_rfl) (by kernel_rfl) (by kernel_rfl) (fun _ _ _ h => HQ.out _ _ _ _ _ h) hS (fun L' W hL hW => by go_simp; rfl) ?_
  refine g_take (i := 17) rfl rfl (by kernel_rfl) (by kernel_rfl) (by kernel_rfl) (by kernel_rfl) (by kernel_rfl) (fun _ _ _ h => HQ.out _ _ _ _ _ h) hS (fun L' W hL hW => by go_simp; rfl) ?_
  refine g_take (i := 18) rfl rfl (by kernel_rfl) (by kernel_rfl) (by kernel_rfl) (by kernel_rfl) (by kernel_rfl) (fun _ _ _ h => HQ.out _ _ _ _ _ h) hS (fun L' W hL hW => by go_simp; rfl) ?_
  refine g_takeG (i := 19) rfl (by simp only [Region.wanted, yielded]; go_simp) (by kernel_rfl) (by kernel_rfl) (by kernel_rfl) (by kernel_rfl) (by kernel_rfl) (fun _ _ _ h => HQ.out _ _ _ _ _ h) hS (fun L' W hL hW => by go_simp; rfl) ?_
  refine g_takeG (i := 20) rfl (by simp only [Region.wanted, yielded]; go_simp) (by kernel_rfl) (by kernel_rfl) (by kernel_rfl) (by kernel_rfl) (by kernel_rfl) (fun _ _ _ h => HQ.out _ _ _ _ _ h) hS (fun L' W hL hW => by go_simp; rfl) ?_
  refine g_takeG (i := 21) rfl (by simp only [Region.wanted, yielded]; go_simp) (by kernel_rfl) (by kernel_rfl) (by kernel_rfl) (by kernel_rfl) (by kernel_rfl) (fun _ _ _ h => HQ.out _ _ _ _ _ h) hS (fun L' W hL hW => by go_simp; rfl) ?_
  refine g_takeG (i := 23) rfl (by simp only [Region.wanted, yielded]; go_simp) (by kernel_rfl) (by kernel_rfl) (by kernel_rfl) (by kernel_rfl) (by kernel_rfl) (fun _ _ _ h => HQ.out _ _ _ _ _ h) hS (fun L' W hL hW => by obtain ⟨k0, k1⟩ := HCL.out _ hW; go_simp; rfl) ?_
  refine g_takeG (i := 24) rfl (by simp only [Region.wanted, yielded]; go_simp) (by kernel_rfl) (by kernel_rfl) (by kernel_rfl) (by kernel_rfl) (by kernel_rfl) (fun _ _ _ h => HQ.out _ _ _ _ _ h) hS (fun L' W hL hW => by go_simp; rfl) ?_
  refine g_takeG (i := 25) rfl (by simp only [Region.wanted, yielded]; go_simp) (by kernel_rfl) (by kernel_rfl) (by kernel_rfl) (by kernel_rfl) (by kernel_rfl) (fun _ _ _ h => HQ.out _ _ _ _ _ h) hS (fun L' W hL hW => by go_simp; rfl) ?_
  refine g_one (i := 22) rfl (by simp only [Region.wanted, yielded]; go_simp) (by kernel_rfl) fun K hK => ?_
  go_simp
  refine Calls.mono (reach_b (HT.out.below hS).gr HOK.out (by omega) HR.out au av) ?_
  rintro e w10 ⟨rfl, B6⟩
  have hS : Below wx.heap.size wx w10 := hS.trans (B6.mono hS.size)
  refine hK _ _ hS ?_
  clear hK K B6
  refine g_one (i := 26) rfl (by simp only [Region.wanted, yielded]; go_simp) (by kernel_rfl) fun K hK => ?_
  go_simp
  refine Calls.mono (refreach_b (by omega) HOK.out HR.out HT.out.len HT.out.cap HT.out.max (by omega) (HT.out.below hS).edges au av) ?_
  rintro e w11 ⟨rfl, B6⟩
  have hS : Below wx.heap.size wx w11 := hS.trans (B6.mono hS.size)
  refine hK _ _ hS ?_
  clear hK K B6
  generalize R au av = rb at *
  have erb : (rb != rb) = false := by simp
  refine g_takeG (i := 27) rfl (by simp only [Region.wanted, yielded]; go_simp) (by kernel_rfl) (by kernel_rfl) (by kernel_rfl) (by kernel_rfl) (by kernel_rfl) (fun _ _ _ h => HQ.out _ _ _ _ _ h) hS (fun L' W hL hW => by go_simp; rfl) ?_
  refine g_take (i := 28) rfl rfl (by kernel_rfl) (by kernel_rfl) (by kernel_rfl) (by kernel_rfl) (by kernel_rfl) (fun _ _ _ h => HQ.out _ _ _ _ _ h) hS (fun L' W hL hW => by go_simp; rfl) ?_
  refine g_take (i := 29) rfl rfl (by kernel_rfl) (by kernel_rfl) (by kernel_rfl) (by kernel_rfl) (by kernel_rfl) (fun _ _ _ h => HQ.out _ _ _ _ _ h) hS (fun L' W hL hW => by go_simp; rfl) ?_
  refine g_takeG (i := 30) rfl (by simp only [Region.wanted, yielded]; go_simp) (by kernel_rfl) (by kernel_rfl) (by kernel_rfl) (by kernel_rfl) (by kernel_rfl) (fun _ _ _ h => HQ.out _ _ _ _ _ h) hS (fun L' W hL hW => by go_simp; rfl) ?_
  refine g_takeG (i := 31) rfl (by simp only [Region.wanted, yielded]; go_simp) (by kernel_rfl) (by kernel_rfl) (by kernel_rfl) (by kernel_rfl) (by kernel_rfl) (fun _ _ _ h => HQ.out _ _ _ _ _ h) hS (fun L' W hL hW => by go_simp; rfl) ?_
  refine g_takeG (i := 32) rfl (by simp only [Region.wanted, yielded]; go_simp) (by kernel_rfl) (by kernel_rfl) (by kernel_rfl) (by kernel_rfl) (by kernel_rfl) (fun _ _ _ h => HQ.out _ _ _ _ _ h) hS (fun L' W hL hW => by go_simp; rfl) ?_
  refine g_skip (i := 33) rfl (by simp only [Region.wanted, yielded]; go_simp) (by kernel_rfl) (by kernel_rfl) (by kernel_rfl) (by kernel_rfl) (by kernel_rfl) (fun _ _ _ h => HQ.out _ _ _ _ _ h) hS ?_
  refine g_skip (i := 34) rfl (by simp only [Region.wanted, yielded]; go_simp) (by kernel_rfl) (by kernel_rfl) (by kernel_rfl) (by kernel_rfl) (by kernel_rfl) (fun _ _ _ h => HQ.out _ _ _ _ _ h) hS ?_
  refine g_skip (i := 35) rfl (by simp only [Region.wanted, yielded]; go_simp) (by kernel_rfl) (by kernel_rfl) (by kernel_rfl) (by kernel_rfl) (by kernel_rfl) (fun _ _ _ h => HQ.out _ _ _ _ _ h) hS ?_
  refine g_skip (i := 36) rfl (by simp only [Region.wanted, yielded]; go_simp) (by kernel_rfl) (by kernel_rfl) (by kernel_rfl) (by kernel_rfl) (by kernel_rfl) (fun _ _ _ h => HQ.out _ _ _ _ _ h) hS ?_
  refine g_skip (i := 37) rfl (by simp only [Region.wanted, yielded]; go_simp) (by kernel_rfl) (by kernel_rfl) (by kernel_rfl) (by kernel_rfl) (by kernel_rfl) (fun _ _ _ h => HQ.out _ _ _ _ _ h) hS ?_
  refine g_skip (i := 38) rfl (by simp only [Region.wanted, yielded]; go_simp) (by kernel_rfl) (by kernel_rfl) (by kernel_rfl) (by kernel_rfl) (by kernel_rfl) (fun _ _ _ h => HQ.out _ _ _ _ _ h) hS ?_
  refine g_skip (i := 39) rfl (by simp only [Region.wanted, yielded]; go_simp) (by kernel_rfl) (by kernel_rfl) (by kernel_rfl) (by kernel_rfl) (by kernel_rfl) (fun _ _ _ h => HQ.out _ _ _ _ _ h) hS ?_
  refine g_skip (i := 40) rfl (by simp only [Region.wanted, yielded]; go_simp) (by kernel_rfl) (by kernel_rfl) (by kernel_rfl) (by kernel_rfl) (by kernel_rfl) (fun _ _ _ h => HQ.out _ _ _ _ _ h) hS ?_
  refine g_skip (i := 41) rfl (by simp only [Region.wanted, yielded]; go_simp) (by kernel_rfl) (by kernel_rfl) (by kernel_rfl) (by kernel_rfl) (by kernel_rfl) (fun _ _ _ h => HQ.out _ _ _ _ _ h) hS ?_
  refine g_takeG (i := 42) rfl (by simp only [Region.wanted, yielded]; go_simp) (by kernel_rfl) (by kernel_rfl) (by kernel_rfl) (by kernel_rfl) (by kernel_rfl) (fun _ _ _ h => HQ.out _ _ _ _ _ h) hS (fun L' W hL hW => by go_simp; rfl) ?_
  refine g_take (i := 43) rfl rfl (by kernel_rfl) (by kernel_rfl) (by kernel_rfl) (by kernel_rfl) (by kernel_rfl) (fun _ _ _ h => HQ.out _ _ _ _ _ h) hS (fun L' W hL hW => by go_simp; rfl) ?_
  refine wpAnyG_done (by kernel_rfl) ?_ _
  have HN : Hid (Below wx.heap.size wx w11) := Lib.hid hS
  clear hS HCL
  go_simp
  go_wp2_with fail
  go_roundw
  case rel => exact ⟨j + 1, by omega, by go_num, Lib.hid (HB.out.trans (HN.out.mono HB.out.size))⟩
  case measure => simp [intOf]; omega

set_option maxRecDepth 1000000 in
set_option maxHeartbeats 16000000 in
theorem round_K {n0 : Nat} {A : Option Addr} {c : Nat} {Aa : Option Addr} {ca ma : Nat} {la : List Int} {w : World} {g bm k n : Nat} {F : Nat → Prop} {L : List (List Int)} {A9 : Option Addr} {q c9 : Nat} {As At : Option Addr} {cs ct : Nat} {lo : List Int} {bo : Bool} {R : Int → Int → Bool} {m2 : Nat} {w5 : World} (hk : k ≤ 60) (hnk : n ≤ 40 + 5 * k) (hqk : q ≤ k) (hmca : ma ≤ ca) (hcma : ca ≤ 2 ^ 63 - 1) (HJ : Hid (Nums w w.heap.size Aa la)) (HMA : Hid (ma = la.length)) (HOK : Hid (OK n L)) (HT5 : Hid (TG w w5 F g n L bm n A9 q c9 (edgesTo L n))) (HR : Hid (IsR n L R)) (hmc2 : (m2 : Int) ≤ (ca : Int)) (hm12 : m2 ≤ 12) (hmn2 : m2 ≤ ma) {Q0 : Exit → Act → World → Prop} (HQ : Hid (∀ (x : List PanicEntry) (a : Act) (d : Option Tmp) (v : Value) (w : World), Q0 (.panic x) (a.put d v) w → Q0 (.panic x) a w)) {wr : World} {u6 u12 u13 u14 u15 u16 u17 u18 u19 u20 u21 u22 u23 u24 u29 u30 u31 u32 u33 u34 u35 u36 u37 u38 u39 u40 u41 u42 u43 u44 u45 u46 u47 u48 u49 u50 u51 u52 u53 u54 u55 u56 u57 u58 u59 u60 u61 u62 u63 u64 u65 u66 u67 u68 u69 u70 u71 u75 u76 u77 u78 u79 u80 u81 u82 u83 u84 u85 u86 u87 u88 u89 u90 u91 u92 u93 u94 u95 u96 u97 u98 u99 u100 u101 u102 u103 u104 u105 u106 u107 u108 u109 u110 u111 u112 u113 u114 u115 u116 u117 u118 u119 u120 u121 u122 u123 u124 u125 u126 u127 u128 u129 u130 u131 u132 u133 u134 u135 u136 u137 u138 u139 u140 u141 u142 u143 u144 u145 u146 u147 u148 u149 u150 u151 u152 u153 u154 u155 u156 u157 u158 u159 u160 u161 u162 u163 u164 u165 u166 u167 u168 u169 u170 u171 u172 u173 u174 u175 u176 u177 u178 u179 u180 u181 u182 u183 u184 u185 u186 u187 u188 u189 u190 u191 u192 u193 u194 u195 u196 u197 u198 u199 u200 u201 u202 u203 u204 u205 u206 u207 u208 u209 u213 u214 u215 u216 u217 u218 u219 u220 u221 u222 u223 u224 u225 u226 u227 u228 u229 u230 u231 u232 u233 u234 u235 u236 u237 u238 u239 u240 u241 u242 u243 u244 u245 u246 u247 u248 u249 u250 u251 u252 u253 u254 u255 u256 u257 u258 u259 u260 u261 u262 u263 u264 u265 : Value} {j : Nat} (hj : j ≤ m2) (HB : Hid (Below w5.heap.size w5 wr)) (hlt2 : j < m2) (hj0 : ¬ j = 0) : Code.wp Try.prog tellsBody2 (Exit.then (fun a' w' => (∃ u6 u29 u30 u31 u212 u213 u214 u215 u216 u217 u218 u219 u220 u221 u222 u223 u224 u225 u226 u227 u228 u229 u230 u231 u232 u233 u234 u235 u236 u237 u238 u239 u240 u241 u242 u243 u244 u245 u246 u247 u248 u249 u250 u251 u252 u253 u254 u255 u256 u257 u258 u259 u260 u261 u262 u263 u264 : Value, (∃ j : Nat, j ≤ m2 ∧ u212 = Value.int IntKind.i64 ((j : Nat) : Int) ∧ Hid (Below w5.heap.size w5 w')) ∧ a' = { tmps := #[Value.int IntKind.i64 ((n0 : Nat) : Int), Value.slice A k c, Value.slice Aa ma ca, undef, undef, undef, u6, Value.pointer (some { block := g, off := 0 }), Value.int IntKind.i64 0, Value.pointer (some { block := bm, off := 0 }), Value.int IntKind.i64 0, undef, u12, u13, u14, u15, u16, u17, u18, u19, u20, u21, u22, u23, u24, Value.slice As lo.length cs, Value.bool bo, Value.slice At lo.length ct, Value.bool bo, u29, u30, u31, u32, u33, u34, u35, u36, u37, u38, u39, u40, u41, u42, u43, u44, u45, u46, u47, u48, u49, u50, u51, u52, u53, u54, u55, u56, u57, u58, u59, u60, u61, u62, u63, u64, u65, u66, u67, u68, u69, u70, u71, Value.slice A k c, Value.int IntKind.i64 ((k : Nat) : Int), Value.int IntKind.i64 ((k : Nat) : Int), u75, u76, u77, u78, u79, u80, u81, u82, u83, u84, u85, u86, u87, u88, u89, u90, u91, u92, u93, u94, u95, u96, u97, u98, u99, u100, u101, u102, u103, u104, u105, u106, u107, u108, u109, u110, u111, u112, u113, u114, u115, u116, u117, u118, u119, u120, u121, u122, u123, u124, u125, u126, u127, u128, u129, u130, u131, u132, u133, u134, u135, u136, u137, u138, u139, u140, u141, u142, u143, u144, u145, u146, u147, u148, u149, u150, u151, u152, u153, u154, u155, u156, u157, u158, u159, u160, u161, u162, u163, u164, u165, u166, u167, u168, u169, u170, u171, u172, u173, u174, u175, u176, u177, u178, u179, u180, u181, u182, u183, u184, u185, u186, u187, u188, u189, u190, u191, u192, u193, u194, u195, u196, u197, u198, u199, u200, u201, u202, u203, u204, u205, u206, u207, u208, u209, Value.slice Aa m2 ca, Value.int IntKind.i64 ((m2 : Nat) : Int), u212, u213, u214, u215, u216, u217, u218, u219, u220, u221, u222, u223, u224, u225, u226, u227, u228, u229, u230, u231, u232, u233, u234, u235, u236, u237, u238, u239, u240, u241, u242, u243, u244, u245, u246, u247, u248, u249, u250, u251, u252, u253, u254, u255, u256, u257, u258, u259, u260, u261, u262, u263, u264, u265], defers := [] }) ∧ m2 - (intOf (a'.tmps.getD 212 undef)).toNat < m2 - (intOf (#[Value.int IntKind.i64 ((n0 : Nat) : Int), Value.slice A k c, Value.slice Aa ma ca, undef, undef, undef, u6, Value.pointer (some { block := g, off := 0 }), Value.int IntKind.i64 0, Value.pointer (some { block := bm, off := 0 }), Value.int IntKind.i64 0, undef, u12, u13, u14, u15, u16, u17, u18, u19, u20, u21, u22, u23, u24, Value.slice As lo.length cs, Value.bool bo, Value.slice At lo.length ct, Value.bool bo, u29, u30, u31, u32, u33, u34, u35, u36, u37, u38, u39, u40, u41, u42, u43, u44, u45, u46, u47, u48, u49, u50, u51, u52, u53, u54, u55, u56, u57, u58, u59, u60, u61, u62, u63, u64, u65, u66, u67, u68, u69, u70, u71, Value.slice A k c, Value.int IntKind.i64 ((k : Nat) : Int), Value.int IntKind.i64 ((k : Nat) : Int), u75, u76, u77, u78, u79, u80, u81, u82, u83, u84, u85, u86, u87, u88, u89, u90, u91, u92, u93, u94, u95, u96, u97, u98, u99, u100, u101, u102, u103, u104, u105, u106, u107, u108, u109, u110, u111, u112, u113, u114, u115, u116, u117, u118, u119, u120, u121, u122, u123, u124, u125, u126, u127, u128, u129, u130, u131, u132, u133, u134, u135, u136, u137, u138, u139, u140, u141, u142, u143, u144, u145, u146, u147, u148, u149, u150, u151, u152, u153, u154, u155, u156, u157, u158, u159, u160, u161, u162, u163, u164, u165, u166, u167, u168, u169, u170, u171, u172, u173, u174, u175, u176, u177, u178, u179, u180, u181, u182, u183, u184, u185, u186, u187, u188, u189, u190, u191, u192, u193, u194, u195, u196, u197, u198, u199, u200, u201, u202, u203, u204, u205, u206, u207, u208, u209, Value.slice Aa m2 ca, Value.int IntKind.i64 ((m2 : Nat) : Int), (Value.int IntKind.i64 (j : Int)), u213, u214, u215, u216, u217, u218, u219, u220, u221, u222, u223, u224, u225, u226, u227, u228, u229, u230, u231, u232, u233, u234, u235, u236, u237, u238, u239, u240, u241, u242, u243, u244, u245, u246, u247, u248, u249, u250, u251, u252, u253, u254, u255, u256, u257, u258, u259, u260, u261, u262, u263, u264, u265].getD 212 undef)).toNat) Q0) ⟨#[Value.int IntKind.i64 ((n0 : Nat) : Int), Value.slice A k c, Value.slice Aa ma ca, undef, undef, undef, u6, Value.pointer (some { block := g, off := 0 }), Value.int IntKind.i64 0, Value.pointer (some { block := bm, off := 0 }), Value.int IntKind.i64 0, undef, u12, u13, u14, u15, u16, u17, u18, u19, u20, u21, u22, u23, u24, Value.slice As lo.length cs, Value.bool bo, Value.slice At lo.length ct, Value.bool bo, u29, u30, u31, u32, u33, u34, u35, u36, u37, u38, u39, u40, u41, u42, u43, u44, u45, u46, u47, u48, u49, u50, u51, u52, u53, u54, u55, u56, u57, u58, u59, u60, u61, u62, u63, u64, u65, u66, u67, u68, u69, u70, u71, Value.slice A k c, Value.int IntKind.i64 ((k : Nat) : Int), Value.int IntKind.i64 ((k : Nat) : Int), u75, u76, u77, u78, u79, u80, u81, u82, u83, u84, u85, u86, u87, u88, u89, u90, u91, u92, u93, u94, u95, u96, u97, u98, u99, u100, u101, u102, u103, u104, u105, u106, u107, u108, u109, u110, u111, u112, u113, u114, u115, u116, u117, u118, u119, u120, u121, u122, u123, u124, u125, u126, u127, u128, u129, u130, u131, u132, u133, u134, u135, u136, u137, u138, u139, u140, u141, u142, u143, u144, u145, u146, u147, u148, u149, u150, u151, u152, u153, u154, u155, u156, u157, u158, u159, u160, u161, u162, u163, u164, u165, u166, u167, u168, u169, u170, u171, u172, u173, u174, u175, u176, u177, u178, u179, u180, u181, u182, u183, u184, u185, u186, u187, u188, u189, u190, u191, u192, u193, u194, u195, u196, u197, u198, u199, u200, u201, u202, u203, u204, u205, u206, u207, u208, u209, Value.slice Aa m2 ca, Value.int IntKind.i64 ((m2 : Nat) : Int), (Value.int IntKind.i64 (j : Int)), u213, u214, u215, u216, u217, u218, u219, u220, u221, u222, u223, u224, u225, u226, u227, u228, u229, u230, u231, u232, u233, u234, u235, u236, u237, u238, u239, u240, u241, u242, u243, u244, u245, u246, u247, u248, u249, u250, u251, u252, u253, u254, u255, u256, u257, u258, u259, u260, u261, u262, u263, u264, u265], []⟩ wr := by
  conv => arg 2; whnf
  have hja : j < la.length := by have := HMA.out; omega
  have h0a : 0 < la.length := by omega
  obtain ⟨b, off, rfl, hb, p1⟩ := HJ.out.at_ hja
  obtain ⟨b', off', hAA, hb', p0⟩ := HJ.out.at_ h0a
  have hAA' : b = b' ∧ off = off' := by
    simp only [Option.some.injEq, Addr.mk.injEq, and_true] at hAA
    exact hAA
  obtain ⟨rfl, rfl⟩ := hAA'
  have hlow := HT5.out.low.trans (HB.out.mono HT5.out.low.size)
  have q1 := (hlow.cell (p := ⟨b, _, none⟩) hb).trans p1
  have q0 : wr.cell? ⟨b, off, none⟩ = some (.int .i64 la[0]) := (hlow.cell (p := ⟨b, off + 0, none⟩) hb').trans p0
  generalize la[j] = av at *
  generalize la[0] = au at *
  have HT := Lib.hid (HT5.out.below HB.out)
  have i1 : (0 : Int) ≤ (j : Int) := by omega
  have i2 : (j : Int) < (m2 : Int) := by omega
  have i3 : (0 : Int) < (ma : Int) := by omega
  clear p1 p0 hb hb' hAA hlow hja h0a
  generalize hWX : wr = wx at *
  clear hWX

  have dj2 : (0 : Int) < (j : Int) := by omega
  have dj3 : 0 < j := by omega
  clear hj0
  go_wp2_with fail
  clear q0 q1
  have HCL : Hid (∀ W, Below wx.heap.size wx W → W.cell? ⟨bm, 0, none⟩ = some (.int .i64 (n : Int)) ∧ W.cell? ⟨bm, 1, none⟩ = some (.slice A9 q c9)) := Lib.hid (fun W hW => ⟨(HT.out.box.below hW HT.out.box.lt).at_ 0 rfl, (HT.out.box.below hW HT.out.box.lt).at_ 1 rfl⟩)
  have hS : Below wx.heap.size wx wx.drew := (Below.refl _ wx).drew
  refine wp_region_heldG [] (fun _ W => Below wx.heap.size wx W) (by kernel_rfl) ?_
  change wpAnyG _ _ _ _ _ _ 44 _ _ wx.drew
  refine g_take (i := 0) rfl rfl (by kernel_rfl) (by kernel_rfl) (by kernel_rfl) (by kernel_rfl) (by kernel_rfl) (fun _ _ _ h => HQ.out _ _ _ _ _ h) hS (fun L' W hL hW => by go_simp; rfl) ?_
  refine g_take (i := 1) rfl rfl (by kernel_rfl) (by kernel_rfl) (by kernel_rfl) (by kernel_rfl) (by kernel_rfl) (fun _ _ _ h => HQ.out _ _ _ _ _ h) hS (fun L' W hL hW => by go_simp; rfl) ?_
  refine g_take (i := 3) rfl rfl (by kernel_rfl) (by kernel_rfl) (by kernel_rfl) (by kernel_rfl) (by kernel_rfl) (fun _ _ _ h => HQ.out _ _ _ _ _ h) hS (fun L' W hL hW => by obtain ⟨k0, k1⟩ := HCL.out _ hW; go_simp; rfl) ?_
  refine g_take (i := 4) rfl rfl (by kernel_rfl) (by kernel_rfl) (by kernel_rfl) (by kernel_rfl) (by kernel_rfl) (fun _ _ _ h => HQ.out _ _ _ _ _ h) hS (fun L' W hL hW => by go_simp; rfl) ?_
  refine g_one (i := 2) rfl rfl (by kernel_rfl) fun K hK => ?_
  go_simp
  refine Calls.mono (out_c (HT.out.below hS).gr (HOK.out.rises (by omega)) av _ rfl _ rfl) ?_
  rintro e w4 ⟨Ao, co, rfl, O4, B4⟩
  have HO4 := Lib.hid O4
  have hS : Below wx.heap.size wx w4 := hS.trans B4
  refine hK _ _ hS ?_
  clear hK K B4 O4
  refine g_one (i := 5) rfl rfl (by kernel_rfl) fun K hK => ?_
  go_simp
  refine Calls.mono (refout_any w4 n A9 q c9 (edgesTo L n) HT.out.len HT.out.cap HT.out.max (by omega) (HT.out.below hS).edges av) ?_
  intro e w5 h5
  rw [Gr.tells_out HOK.out] at h5
  obtain ⟨Ap, cp5, rfl, O5, B5⟩ := h5.c rfl rfl
  have HO4' := Lib.hid (own_belowW HO4.out B5)
  have HO5 := Lib.hid O5
  have hS : Below wx.heap.size wx w5 := hS.trans (B5.mono hS.size)
  refine hK _ _ hS ?_
  clear hK K h5 B5 O5 HO4
  refine g_one (i := 6) rfl rfl (by kernel_rfl) fun K hK => ?_
  go_simp
  refine Calls.mono (ints_own HO4'.out HO5.out) ?_
  rintro e w6 ⟨rfl, B6⟩
  rw [decide_eq_true (show outE n L av = outE n L av from rfl)]
  have hS : Below wx.heap.size wx w6 := hS.trans (B6.mono hS.size)
  refine hK _ _ hS ?_
  clear hK K B6 HO4' HO5
  refine g_take (i := 7) rfl rfl (by kernel_rfl) (by kernel_rfl) (by kernel_rfl) (by kernel_rfl) (by kernel_rfl) (fun _ _ _ h => HQ.out _ _ _ _ _ h) hS (fun L' W hL hW => by go_simp; rfl) ?_
  refine g_take (i := 8) rfl rfl (by kernel_rfl) (by kernel_rfl) (by kernel_rfl) (by kernel_rfl) (by kernel_rfl) (fun _ _ _ h => HQ.out _ _ _ _ _ h) hS (fun L' W hL hW => by go_simp; rfl) ?_
  refine g_takeG (i := 9) rfl (by simp only [Region.wanted, yielded]; go_simp) (by kernel_rfl) (by kernel_rfl) (by kernel_rfl) (by kernel_rfl) (by kernel_rfl) (fun _ _ _ h => HQ.out _ _ _ _ _ h) hS (fun L' W hL hW => by go_simp; rfl) ?_
  refine g_takeG (i := 10) rfl (by simp only [Region.wanted, yielded]; go_simp) (by kernel_rfl) (by kernel_rfl) (by kernel_rfl) (by kernel_rfl) (by kernel_rfl) (fun _ _ _ h => HQ.out _ _ _ _ _ h) hS (fun L' W hL hW => by go_simp; rfl) ?_
  refine g_takeG (i := 12) rfl (by simp only [Region.wanted, yielded]; go_simp) (by kernel_rfl) (by kernel_rfl) (by kernel_rfl) (by kernel_rfl) (by kernel_rfl) (fun _ _ _ h => HQ.out _ _ _ _ _ h) hS (fun L' W hL hW => by obtain ⟨k0, k1⟩ := HCL.out _ hW; go_simp; rfl) ?_
  refine g_takeG (i := 13) rfl (by simp only [Region.wanted, yielded]; go_simp) (by kernel_rfl) (by kernel_rfl) (by kernel_rfl) (by kernel_rfl) (by kernel_rfl) (fun _ _ _ h => HQ.out _ _ _ _ _ h) hS (fun L' W hL hW => by go_simp; rfl) ?_
  refine g_one (i := 11) rfl (by simp only [Region.wanted, yielded]; go_simp) (by kernel_rfl) fun K hK => ?_
  go_simp
  refine Calls.mono (into_c (HT.out.below hS).gr (HOK.out.rises (by omega)) av _ rfl _ rfl) ?_
  rintro e w7 ⟨Ao, co, rfl, O4, B4⟩
  have HO4 := Lib.hid O4
  have hS : Below wx.heap.size wx w7 := hS.trans (B4.mono hS.size)
  refine hK _ _ hS ?_
  clear hK K B4 O4
  refine g_one (i := 14) rfl (by simp only [Region.wanted, yielded]; go_simp) (by kernel_rfl) fun K hK => ?_
  go_simp
  refine Calls.mono (refin_any w7 n A9 q c9 (edgesTo L n) HT.out.len HT.out.cap HT.out.max (by omega) (HT.out.below hS).edges av) ?_
  intro e w8 h5
  rw [Gr.tells_in HOK.out] at h5
  obtain ⟨Ap, cp5, rfl, O5, B5⟩ := h5.c rfl rfl
  have HO4' := Lib.hid (own_belowW HO4.out B5)
  have HO5 := Lib.hid O5
  have hS : Below wx.heap.size wx w8 := hS.trans (B5.mono hS.size)
  refine hK _ _ hS ?_
  clear hK K h5 B5 O5 HO4
  refine g_one (i := 15) rfl (by simp only [Region.wanted, yielded]; go_simp) (by kernel_rfl) fun K hK => ?_
  go_simp
  refine Calls.mono (ints_own HO4'.out HO5.out) ?_
  rintro e w9 ⟨rfl, B6⟩
  rw [decide_eq_true (show intoE n L av = intoE n L av from rfl)]
  have hS : Below wx.heap.size wx w9 := hS.trans (B6.mono hS.size)
  refine hK _ _ hS ?_
  clear hK K B6 HO4' HO5
  refine g_takeG (i := 16) rfl (by simp only [Region.wanted, yielded]; go_simp) (by kernel_rfl) (by kernel_rfl) (by kernel_rfl) (by kernel_rfl) (by kernel_rfl) (fun _ _ _ h => HQ.out _ _ _ _ _ h) hS (fun L' W hL hW => by go_simp; rfl) ?_
  refine g_take (i := 17) rfl rfl (by kernel_rfl) (by kernel_rfl) (by kernel_rfl) (by kernel_rfl) (by kernel_rfl) (fun _ _ _ h => HQ.out _ _ _ _ _ h) hS (fun L' W hL hW => by go_simp; rfl) ?_
  refine g_take (i := 18) rfl rfl (by kernel_rfl) (by kernel_rfl) (by kernel_rfl) (by kernel_rfl) (by kernel_rfl) (fun _ _ _ h => HQ.out _ _ _ _ _ h) hS (fun L' W hL hW => by go_simp; rfl) ?_
  refine g_takeG (i := 19) rfl (by simp only [Region.wanted, yielded]; go_simp) (by kernel_rfl) (by kernel_rfl) (by kernel_rfl) (by kernel_rfl) (by kernel_rfl) (fun _ _ _ h => HQ.out _ _ _ _ _ h) hS (fun L' W hL hW => by go_simp; rfl) ?_
  refine g_takeG (i := 20) rfl (by simp only [Region.wanted, yielded]; go_simp) (by kernel_rfl) (by kernel_rfl) (by kernel_rfl) (by kernel_rfl) (by kernel_rfl) (fun _ _ _ h => HQ.out _ _ _ _ _ h) hS (fun L' W hL hW => by go_simp; rfl) ?_
  refine g_takeG (i := 21) rfl (by simp only [Region.wanted, yielded]; go_simp) (by kernel_rfl) (by kernel_rfl) (by kernel_rfl) (by kernel_rfl) (by kernel_rfl) (fun _ _ _ h => HQ.out _ _ _ _ _ h) hS (fun L' W hL hW => by go_simp; rfl) ?_
  refine g_takeG (i := 23) rfl (by simp only [Region.wanted, yielded]; go_simp) (by kernel_rfl) (by kernel_rfl) (by kernel_rfl) (by kernel_rfl) (by kernel_rfl) (fun _ _ _ h => HQ.out _ _ _ _ _ h) hS (fun L' W hL hW => by obtain ⟨k0, k1⟩ := HCL.out _ hW; go_simp; rfl) ?_
  refine g_takeG (i := 24) rfl (by simp only [Region.wanted, yielded]; go_simp) (by kernel_rfl) (by kernel_rfl) (by kernel_rfl) (by kernel_rfl) (by kernel_rfl) (fun _ _ _ h => HQ.out _ _ _ _ _ h) hS (fun L' W hL hW => by go_simp; rfl) ?_
  refine g_takeG (i := 25) rfl (by simp only [Region.wanted, yielded]; go_simp) (by kernel_rfl) (by kernel_rfl) (by kernel_rfl) (by kernel_rfl) (by kernel_rfl) (fun _ _ _ h => HQ.out _ _ _ _ _ h) hS (fun L' W hL hW => by go_simp; rfl) ?_
  refine g_one (i := 22) rfl (by simp only [Region.wanted, yielded]; go_simp) (by kernel_rfl) fun K hK => ?_
  go_simp
  refine Calls.mono (reach_b (HT.out.below hS).gr HOK.out (by omega) HR.out au av) ?_
  rintro e w10 ⟨rfl, B6⟩
  have hS : Below wx.heap.size wx w10 := hS.trans (B6.mono hS.size)
  refine hK _ _ hS ?_
  clear hK K B6
  refine g_one (i := 26) rfl (by simp only [Region.wanted, yielded]; go_simp) (by kernel_rfl) fun K hK => ?_
  go_simp
  refine Calls.mono (refreach_b (by omega) HOK.out HR.out HT.out.len HT.out.cap HT.out.max (by omega) (HT.out.below hS).edges au av) ?_
  rintro e w11 ⟨rfl, B6⟩
  have hS : Below wx.heap.size wx w11 := hS.trans (B6.mono hS.size)
  refine hK _ _ hS ?_
  clear hK K B6
  generalize R au av = rb at *
  have erb : (rb != rb) = false := by simp
  refine g_takeG (i := 27) rfl (by simp only [Region.wanted, yielded]; go_simp) (by kernel_rfl) (by kernel_rfl) (by kernel_rfl) (by kernel_rfl) (by kernel_rfl) (fun _ _ _ h => HQ.out _ _ _ _ _ h) hS (fun L' W hL hW => by go_simp; rfl) ?_
  refine g_take (i := 28) rfl rfl (by kernel_rfl) (by kernel_rfl) (by kernel_rfl) (by kernel_rfl) (by kernel_rfl) (fun _ _ _ h => HQ.out _ _ _ _ _ h) hS (fun L' W hL hW => by go_simp; rfl) ?_
  refine g_take (i := 29) rfl rfl (by kernel_rfl) (by kernel_rfl) (by kernel_rfl) (by kernel_rfl) (by kernel_rfl) (fun _ _ _ h => HQ.out _ _ _ _ _ h) hS (fun L' W hL hW => by go_simp; rfl) ?_
  refine g_takeG (i := 30) rfl (by simp only [Region.wanted, yielded]; go_simp) (by kernel_rfl) (by kernel_rfl) (by kernel_rfl) (by kernel_rfl) (by kernel_rfl) (fun _ _ _ h => HQ.out _ _ _ _ _ h) hS (fun L' W hL hW => by go_simp; rfl) ?_
  refine g_takeG (i := 31) rfl (by simp only [Region.wanted, yielded]; go_simp) (by kernel_rfl) (by kernel_rfl) (by kernel_rfl) (by kernel_rfl) (by kernel_rfl) (fun _ _ _ h => HQ.out _ _ _ _ _ h) hS (fun L' W hL hW => by go_simp; rfl) ?_
  refine g_takeG (i := 32) rfl (by simp only [Region.wanted, yielded]; go_simp) (by kernel_rfl) (by kernel_rfl) (by kernel_rfl) (by kernel_rfl) (by kernel_rfl) (fun _ _ _ h => HQ.out _ _ _ _ _ h) hS (fun L' W hL hW => by go_simp; rfl) ?_
  refine g_takeG (i := 33) rfl (by simp only [Region.wanted, yielded]; go_simp) (by kernel_rfl) (by kernel_rfl) (by kernel_rfl) (by kernel_rfl) (by kernel_rfl) (fun _ _ _ h => HQ.out _ _ _ _ _ h) hS (fun L' W hL hW => by go_simp; rfl) ?_
  refine g_takeG (i := 34) rfl (by simp only [Region.wanted, yielded]; go_simp) (by kernel_rfl) (by kernel_rfl) (by kernel_rfl) (by kernel_rfl) (by kernel_rfl) (fun _ _ _ h => HQ.out _ _ _ _ _ h) hS (fun L' W hL hW => by go_simp; rfl) ?_
  refine g_takeG (i := 35) rfl (by simp only [Region.wanted, yielded]; go_simp) (by kernel_rfl) (by kernel_rfl) (by kernel_rfl) (by kernel_rfl) (by kernel_rfl) (fun _ _ _ h => HQ.out _ _ _ _ _ h) hS (fun L' W hL hW => by go_simp; rfl) ?_
  refine g_takeG (i := 37) rfl (by simp only [Region.wanted, yielded]; go_simp) (by kernel_rfl) (by kernel_rfl) (by kernel_rfl) (by kernel_rfl) (by kernel_rfl) (fun _ _ _ h => HQ.out _ _ _ _ _ h) hS (fun L' W hL hW => by obtain ⟨k0, k1⟩ := HCL.out _ hW; go_simp; rfl) ?_
  refine g_takeG (i := 38) rfl (by simp only [Region.wanted, yielded]; go_simp) (by kernel_rfl) (by kernel_rfl) (by kernel_rfl) (by kernel_rfl) (by kernel_rfl) (fun _ _ _ h => HQ.out _ _ _ _ _ h) hS (fun L' W hL hW => by go_simp; rfl) ?_
  refine g_takeG (i := 39) rfl (by simp only [Region.wanted, yielded]; go_simp) (by kernel_rfl) (by kernel_rfl) (by kernel_rfl) (by kernel_rfl) (by kernel_rfl) (fun _ _ _ h => HQ.out _ _ _ _ _ h) hS (fun L' W hL hW => by go_simp; rfl) ?_
  refine g_one (i := 36) rfl (by simp only [Region.wanted, yielded]; go_simp) (by kernel_rfl) fun K hK => ?_
  go_simp
  refine Calls.mono (reach_b (HT.out.below hS).gr HOK.out (by omega) HR.out av au) ?_
  rintro e w12 ⟨rfl, B6⟩
  have hS : Below wx.heap.size wx w12 := hS.trans (B6.mono hS.size)
  refine hK _ _ hS ?_
  clear hK K B6
  refine g_one (i := 40) rfl (by simp only [Region.wanted, yielded]; go_simp) (by kernel_rfl) fun K hK => ?_
  go_simp
  refine Calls.mono (refreach_b (by omega) HOK.out HR.out HT.out.len HT.out.cap HT.out.max (by omega) (HT.out.below hS).edges av au) ?_
  rintro e w13 ⟨rfl, B6⟩
  have hS : Below wx.heap.size wx w13 := hS.trans (B6.mono hS.size)
  refine hK _ _ hS ?_
  clear hK K B6
  generalize R av au = rc at *
  have erc : (rc != rc) = false := by simp
  refine g_takeG (i := 41) rfl (by simp only [Region.wanted, yielded]; go_simp) (by kernel_rfl) (by kernel_rfl) (by kernel_rfl) (by kernel_rfl) (by kernel_rfl) (fun _ _ _ h => HQ.out _ _ _ _ _ h) hS (fun L' W hL hW => by go_simp; rfl) ?_
  refine g_takeG (i := 42) rfl (by simp only [Region.wanted, yielded]; go_simp) (by kernel_rfl) (by kernel_rfl) (by kernel_rfl) (by kernel_rfl) (by kernel_rfl) (fun _ _ _ h => HQ.out _ _ _ _ _ h) hS (fun L' W hL hW => by go_simp; rfl) ?_
  refine g_take (i := 43) rfl rfl (by kernel_rfl) (by kernel_rfl) (by kernel_rfl) (by kernel_rfl) (by kernel_rfl) (fun _ _ _ h => HQ.out _ _ _ _ _ h) hS (fun L' W hL hW => by go_simp; rfl) ?_
  refine wpAnyG_done (by kernel_rfl) ?_ _
  have HN : Hid (Below wx.heap.size wx w13) := Lib.hid hS
  clear hS HCL
  go_simp
  go_wp2_with fail
  go_roundw
  case rel => exact ⟨j + 1, by omega, by go_num, Lib.hid (HB.out.trans (HN.out.mono HB.out.size))⟩
  case measure => simp [intOf]; omega

end Go.Proofs.Ytclbpohhmaojcaa.GrW
