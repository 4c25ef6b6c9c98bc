/-
  slices.Sorted(maps.Keys(m)) of a map of counts: its names, in order, each once.
-/
import Derived.Test.YtifmnoepifgaiaaNameSet
import Derived.Test.YtifmnoepifgaiaaNameLay
namespace Go.Proofs.Ytifmnoepifgaiaa.NmW
set_option linter.unusedVariables false
open Go Go.RowKit Go.Maps Go.Sort Go.Shelf Go.Proofs Go.Proofs.Ytifmnoepifgaiaa Go.Proofs.Ytifmnoepifgaiaa.Wd Go.Proofs.Ytifmnoepifgaiaa.ScW Go.Proofs.Ytifmnoepifgaiaa.Nm Go.Proofs.Ytifmnoepifgaiaa.NmL
open Go.Proofs.Ytifmnoepifgaiaa.Sc (N own flow rightAt right chain place chainI deep over below owned)

theorem sortsN (m : Nat) : AnyZ.SortsIn Try.prog sortedRen Fence.wide m :=
  ⟨fun blk off cap ss W hH hblk hsz => callsIn_wide.2 (AnyM.slices_Sort_string sortLays blk off cap ss W hH hblk hsz),
   fun p cap W => callsIn_wide.2 (AnyM.slices_Sort_string_none sortLays p cap W)⟩
theorem keys_c (b : Nat) (W : World) : Calls Try.prog 22 #[.map (some b)] W fun e w' => e = .returned (.func (.func 37) #[] #[.pointer (some ⟨W.heap.size, 0, none⟩)]) ∧ w' = W.alloc (.cells #[.map (some b)] 28) :=
  (callsIn_wide (n := 6)).1 (AnyZ.keys_in keysLays Fence.wide 6 trivial rfl (some b) W)
/-- Names in order, each once. -/
def NamesOut (w : World) (S : List UInt8 → Prop) (e : Ending) (w' : World) : Prop :=
  ∃ (A : Option Addr) (c : Nat) (ls : List (List UInt8)), e = .returned (.slice A ls.length c) ∧ Below w.heap.size w w' ∧ w'.ownsRow w.heap.size 9 1 (.slice A ls.length c) ls.length (ls.map encStr) ∧ ls.Pairwise (· < ·) ∧ ∀ x, x ∈ ls ↔ S x
theorem sort_lt {ss : List (List UInt8)} (h : ss.Nodup) : (ss.mergeSort leB).Pairwise (· < ·) := by
  have tr : ∀ a b c : List UInt8, leB a b = true → leB b c = true → leB a c = true := fun a b c h1 h2 => by simp only [leB, decide_eq_true_eq] at *; exact List.le_trans h1 h2
  have tot : ∀ a b : List UInt8, (leB a b || leB b a) = true := fun a b => by simp only [leB, Bool.or_eq_true, decide_eq_true_eq]; exact List.le_total a b
  have h1 := List.pairwise_mergeSort tr tot ss
  have h2 : (ss.mergeSort leB).Nodup := (List.mergeSort_perm ss leB).nodup_iff.2 h
  refine (List.pairwise_and_iff.2 ⟨h1, h2⟩).imp fun {a b} hab => ?_
  obtain ⟨h3, h4⟩ := hab
  simp only [leB, decide_eq_true_eq] at h3
  exact Std.lt_of_le_of_ne h3 h4
theorem sorted_c (b t : Nat) (S : List UInt8 → Prop) (w : World) (h : SS w b t S) (ht : t ≤ 1000000000000) :
    Calls Try.prog 21 #[.func (.func 37) #[] #[.pointer (some ⟨w.heap.size, 0, none⟩)]] (w.alloc (.cells #[.map (some b)] 28)) (NamesOut w S) := by
  obtain ⟨D0, hown, hm⟩ := h
  have hbl := hown.lt
  have hmax : Maps.size D0 ≤ maxLen := by have := hm.2.2.2; unfold maxLen; omega
  have hbytes : Maps.size D0 * 16 ≤ 140737488355328 := by have := hm.2.2.2; omega
  have hseq : SeqGives Fence.wide 2 Try.prog 37 #[.pointer (some ⟨w.heap.size, 0, none⟩)] encStr (fun ss => ss.Perm (strKeys D0)) (Maps.size D0) (w.alloc (.cells #[.map (some b)] 28)) :=
    AnyZ.keys_gives (ρ := keysRen) { keysLays with } Fence.wide _ trivial rfl (by omega) w.heap.size b t D0 _ (by simp) (by simp) (by
      obtain ⟨es, clock, hb, Ft, hs, hD⟩ := hown
      exact ⟨es, clock, (Below.heap_alloc _ _ b hbl).trans hb, Ft, hs, hD⟩)
  have cS := AnyZ.sorted_in sortedLays Fence.wide 5 trivial trivial trivial trivial rfl (by omega) (sortsN _) (enters_of Try.func36 (by kernel_rfl) rfl) 37 #[.pointer (some ⟨w.heap.size, 0, none⟩)] trivial (enters_of Try.func37 (by kernel_rfl) rfl) _ _ hmax hbytes _ hseq
  refine (callsIn_wide.1 cS).mono ?_
  rintro e w' ⟨v, ss, rfl, hS, hrow, hnil, hb⟩
  obtain ⟨A, c, rfl⟩ := own_form hrow
  have hl : (ss.mergeSort leB).length = ss.length := List.length_mergeSort _
  refine ⟨A, c, ss.mergeSort leB, by rw [hl], ((Below.refl _ w).alloc (Nat.le_refl _) _).trans (hb.mono (by simp)), by rw [hl]; exact ownsRow_base_a hrow (by simp), sort_lt (hS.nodup_iff.2 (hm.nodup hown)), fun x => ?_⟩
  rw [List.mem_mergeSort, hS.mem_iff]
  exact hm.keys hown x
end Go.Proofs.Ytifmnoepifgaiaa.NmW
