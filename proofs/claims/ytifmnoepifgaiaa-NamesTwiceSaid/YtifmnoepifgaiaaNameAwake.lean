/-
  The chapter's examples: the law's awake.
-/
import Derived.Test.YtifmnoepifgaiaaNameLow
namespace Go.Proofs.Ytifmnoepifgaiaa.NmW
set_option linter.unusedVariables false
open Go Go.RowKit Go.Maps Go.Sort Go.Shelf Go.Proofs Go.Proofs.Ytifmnoepifgaiaa Go.Proofs.Ytifmnoepifgaiaa.Wd Go.Proofs.Ytifmnoepifgaiaa.ScW Go.Proofs.Ytifmnoepifgaiaa.Nm Go.Proofs.Ytifmnoepifgaiaa.NmL
open Go.Proofs.Ytifmnoepifgaiaa.Sc (N own flow rightAt right chain place chainI deep over below owned)

/-- Cells of nodes with names. -/
def NCells (xs : List Value) (ns : List N) (ss : List Str) : Prop := NodeCells xs ns ∧ ∀ j, j < ns.length → xs[j * 16 + 1]? = some (.string (nm ss j))
theorem NNodes.lit {w : World} {g B : Nat} {t : TypeId} {cs : Array Value} {ns : List N} {ss : List Str} (h : Blk w g t cs) (hc : NCells cs.toList ns ss) (hB : g < B) : NNodes w B (some ⟨g, 0, none⟩) ns ss :=
  ⟨Nodes.lit h hc.1 hB, fun j hj => ⟨g, 0, rfl, hB, by
    rw [h.cell]
    have := hc.2 j hj
    rw [Nat.zero_add]
    simpa using this⟩⟩
def egCells : Array Value := #[.string ⟨#[]⟩, .string ⟨#[97]⟩, .int .u8 0, .int .i64 0, .int .i64 (-1), .int .i64 0, .slice none 0 0, .int .i64 0, .int .i64 0, .int .u8 0, .int .i64 0, .int .i64 0, .int .u8 0, .int .i64 0, .string ⟨#[]⟩, .slice none 0 0, .string ⟨#[]⟩, .string ⟨#[98]⟩, .int .u8 0, .int .i64 0, .int .i64 (-1), .int .i64 0, .slice none 0 0, .int .i64 0, .int .i64 0, .int .u8 0, .int .i64 0, .int .i64 0, .int .u8 0, .int .i64 0, .string ⟨#[]⟩, .slice none 0 0, .string ⟨#[]⟩, .string ⟨#[98]⟩, .int .u8 0, .int .i64 0, .int .i64 0, .int .i64 0, .slice none 0 0, .int .i64 0, .int .i64 0, .int .u8 0, .int .i64 0, .int .i64 0, .int .u8 0, .int .i64 0, .string ⟨#[]⟩, .slice none 0 0, .string ⟨#[]⟩, .string ⟨#[99]⟩, .int .u8 0, .int .i64 0, .int .i64 0, .int .i64 0, .slice none 0 0, .int .i64 0, .int .i64 0, .int .u8 0, .int .i64 0, .int .i64 0, .int .u8 0, .int .i64 0, .string ⟨#[]⟩, .slice none 0 0, .string ⟨#[]⟩, .string ⟨#[100]⟩, .int .u8 0, .int .i64 0, .int .i64 3, .int .i64 0, .slice none 0 0, .int .i64 0, .int .i64 0, .int .u8 0, .int .i64 0, .int .i64 0, .int .u8 0, .int .i64 0, .string ⟨#[]⟩, .slice none 0 0]
set_option maxRecDepth 100000 in
theorem egCells_ok : NCells egCells.toList egN egS := by
  refine ⟨⟨rfl, fun j hj => ?_, ?_⟩, fun j hj => ?_⟩
  · match j, hj with
    | 0, _ => exact ⟨rfl, rfl⟩
    | 1, _ => exact ⟨rfl, rfl⟩
    | 2, _ => exact ⟨rfl, rfl⟩
    | 3, _ => exact ⟨rfl, rfl⟩
    | 4, _ => exact ⟨rfl, rfl⟩
  · unfold egCells
    intro u hu
    simp only [List.mem_cons, List.not_mem_nil, or_false] at hu
    rcases hu with rfl | rfl | rfl | rfl | rfl | rfl | rfl | rfl | rfl | rfl | rfl | rfl | rfl | rfl | rfl | rfl | rfl | rfl | rfl | rfl | rfl | rfl | rfl | rfl | rfl | rfl | rfl | rfl | rfl | rfl | rfl | rfl | rfl | rfl | rfl | rfl | rfl | rfl | rfl | rfl | rfl | rfl | rfl | rfl | rfl | rfl | rfl | rfl | rfl | rfl | rfl | rfl | rfl | rfl | rfl | rfl | rfl | rfl | rfl | rfl | rfl | rfl | rfl | rfl | rfl | rfl | rfl | rfl | rfl | rfl | rfl | rfl | rfl | rfl | rfl | rfl | rfl | rfl | rfl | rfl <;> rfl
  · match j, hj with
    | 0, _ => rfl
    | 1, _ => rfl
    | 2, _ => rfl
    | 3, _ => rfl
    | 4, _ => rfl
theorem egK (k : Nat) (hk : k < 5) : KOk (key egN egS k) := by
  match k, hk with
  | 0, _ => exact ⟨by decide, by decide, by decide⟩
  | 1, _ => exact ⟨by decide, by decide, by decide⟩
  | 2, _ => exact ⟨by decide, by decide, by decide⟩
  | 3, _ => exact ⟨by decide, by decide, by decide⟩
  | 4, _ => exact ⟨by decide, by decide, by decide⟩
set_option maxRecDepth 100000 in
set_option maxHeartbeats 8000000 in
theorem nawake_any (w : World) : Calls Try.prog 8 #[] w fun e w' => e = .returned (.bool true) ∧ Below w.heap.size w w' := by
  have z0 := Blk.new_ w 35 egCells rfl
  have hB0 := (Below.refl w.heap.size w).alloc (Nat.le_refl _) (.cells egCells 35)
  have hI : ∀ w', Below (w.heap.size + 1) (w.alloc (.cells egCells 35)) w' → NNodes w' w'.heap.size (some ⟨w.heap.size, 0, none⟩) egN egS ∧ Below w.heap.size w w' := fun w' hb =>
    ⟨(NNodes.lit (z0.below hb (Nat.lt_succ_self _)) egCells_ok (Nat.lt_succ_self _)).more (by have h := hb.size; rw [World.size_alloc] at h; exact h), hB0.trans (hb.mono (Nat.le_succ _))⟩
  have hsz : (w.alloc (.cells egCells 35)).heap.size = w.heap.size + 1 := by simp
  have HSZ := Lib.hid hsz
  have HI := Lib.hid hI
  have hgen : ∃ w0, w0 = w.alloc (.cells egCells 35) := ⟨_, rfl⟩
  obtain ⟨w0, hw0⟩ := hgen
  rw [← hw0] at HI HSZ
  have HW0 : Hid (w.alloc (.cells egCells 35) = w0) := Lib.hid hw0.symm
  clear z0 hB0 hI hsz hw0
  have hR0 : Below (w.heap.size + 1) w0 w0 := Below.refl _ _
  have HR := Lib.hid hR0
  clear hR0
  go_enter Try.func8, Try.ntmps8
  go_wp2_with fail
  have hW0 := HW0.out
  unfold egCells at hW0
  rw [hW0]
  clear hW0
  refine (lseen_any _ 5 egN egS 5 rfl (by decide) (by decide) (by decide) egN_right egK 4 ⟨#[98]⟩ (by decide) 2 w0 (HI.out w0 HR.out).1).mono ?_
  rintro e w1 ⟨rfl, B1⟩
  rw [show seenB egN egS 4 ⟨#[98]⟩ 2 = true from eg_s1]
  have HR1 := Lib.hid (HR.out.trans (B1.mono (by have := HR.out.size; have := HSZ.out; omega)))
  clear B1
  go_wp2_with fail
  refine (lseen_any _ 5 egN egS 5 rfl (by decide) (by decide) (by decide) egN_right egK 4 ⟨#[97]⟩ (by decide) 0 w1 (HI.out w1 HR1.out).1).mono ?_
  rintro e w2 ⟨rfl, B2⟩
  rw [show seenB egN egS 4 ⟨#[97]⟩ 0 = true from eg_s2]
  have HR2 := Lib.hid (HR1.out.trans (B2.mono (by have := HR1.out.size; have := HSZ.out; omega)))
  clear B2
  go_wp2_with fail
  refine (lseen_any _ 5 egN egS 5 rfl (by decide) (by decide) (by decide) egN_right egK 4 ⟨#[99]⟩ (by decide) 3 w2 (HI.out w2 HR2.out).1).mono ?_
  rintro e w3 ⟨rfl, B3⟩
  rw [show seenB egN egS 4 ⟨#[99]⟩ 3 = true from eg_s3]
  have HR3 := Lib.hid (HR2.out.trans (B3.mono (by have := HR2.out.size; have := HSZ.out; omega)))
  clear B3
  go_wp2_with fail
  refine (lseen_any _ 5 egN egS 5 rfl (by decide) (by decide) (by decide) egN_right egK 4 ⟨#[120]⟩ (by decide) (-1) w3 (HI.out w3 HR3.out).1).mono ?_
  rintro e w4 ⟨rfl, B4⟩
  rw [show seenB egN egS 4 ⟨#[120]⟩ (-1) = true from eg_s4]
  have HR4 := Lib.hid (HR3.out.trans (B4.mono (by have := HR3.out.size; have := HSZ.out; omega)))
  clear B4
  go_wp2_with fail
  refine (lseen_any _ 5 egN egS 5 rfl (by decide) (by decide) (by decide) egN_right egK 1 ⟨#[99]⟩ (by decide) (-1) w4 (HI.out w4 HR4.out).1).mono ?_
  rintro e w5 ⟨rfl, B5⟩
  rw [show seenB egN egS 1 ⟨#[99]⟩ (-1) = true from eg_s5]
  have HR5 := Lib.hid (HR4.out.trans (B5.mono (by have := HR4.out.size; have := HSZ.out; omega)))
  clear B5
  go_wp2_with fail
  refine (all_any _ 5 egN egS 5 rfl (by decide) (by decide) (by decide) egN_right egK 4 w5 (HI.out w5 HR5.out).1).mono ?_
  rintro e w6 ⟨A6, c6, ls, rfl, B6, O6, h6, m6⟩
  have hls : ls = [[97], [98], [99], [100]] := sorted_unique h6 (by decide) (fun x => (m6 x).trans (eg_all x))
  subst hls
  have HR6 := Lib.hid (HR5.out.trans (B6.mono (by have := HR5.out.size; have := HSZ.out; omega)))
  have O6' : w6.ownsRow w5.heap.size 9 1 (.slice A6 4 c6) 4 [.string (sb 97), .string (sb 98), .string (sb 99), .string (sb 100)] := O6
  have hc6 := own_le O6'
  have HC6 := Lib.hid hc6
  have hrow := own_rowW O6'
  have h60 := hrow 0 (by decide)
  obtain ⟨g6, o6, rfl, hg6, -⟩ := h60
  have hcells : ∀ (j : Nat) x, [sb 97, sb 98, sb 99, sb 100][j]? = some x → w6.cell? ⟨g6, o6 + j, none⟩ = some (.string x) := fun j x hx => by
    have hj : j < 4 := (List.getElem?_eq_some_iff.1 hx).1
    obtain ⟨g7, o7, e7, -, hc⟩ := hrow j hj
    have e8 : g6 = g7 ∧ o6 = o7 := by
      simp only [Option.some.injEq, Addr.mk.injEq, and_true] at e7
      exact e7
    obtain ⟨rfl, rfl⟩ := e8
    rw [hc]
    match j, hj with
    | 0, _ => cases hx; rfl
    | 1, _ => cases hx; rfl
    | 2, _ => cases hx; rfl
    | 3, _ => cases hx; rfl
  have HJ := Lib.hid (Any.strings_Join joinLays joinExtra g6 o6 c6 [sb 97, sb 98, sb 99, sb 100] ⟨#[32]⟩ w6 hcells hg6 (by decide) hc6 (by decide))
  clear hcells hrow O6 O6' h6 m6 B6 hc6 hg6
  go_wp2_with fail
  refine HJ.out.mono ?_
  rintro e w7 ⟨rfl, B7⟩
  have HR7 := Lib.hid (HR6.out.trans (B7.mono (by have := HR6.out.size; have := HSZ.out; omega)))
  clear HJ B7
  have hjoin : (⟨(Lib.join ([sb 97, sb 98, sb 99, sb 100].map (·.data.toList)) (⟨#[32]⟩ : ByteArray).data.toList).toArray⟩ : ByteArray) = ⟨#[97, 32, 98, 32, 99, 32, 100]⟩ := by decide
  rw [hjoin]
  clear hjoin
  go_wp2_with fail
  refine (twice_any _ 5 egN egS 5 rfl (by decide) (by decide) (by decide) egK w7 (HI.out w7 HR7.out).1).mono ?_
  rintro e w8 ⟨rfl, B8⟩
  rw [eg_tw]
  have HR8 := Lib.hid (HR7.out.trans (B8.mono (by have := HR7.out.size; have := HSZ.out; omega)))
  clear B8
  go_wp2_with fail
  go_ret
  exact ⟨rfl, (HI.out w8 HR8.out).2⟩
end Go.Proofs.Ytifmnoepifgaiaa.NmW
