/-
  The walk of Bytes.
-/
import Derived.Test.YtpohefpiidlnjaaHeadWalks2
namespace Go.Proofs.Ytpohefpiidlnjaa.HdW
set_option linter.unusedVariables false
open Go Go.RowKit Go.Shelf Go.Proofs Go.Proofs.Ytpohefpiidlnjaa Go.Proofs.Ytpohefpiidlnjaa.Wd Go.Proofs.Ytpohefpiidlnjaa.Dk Go.Proofs.Ytpohefpiidlnjaa.Hd

/-- Bytes and a code, in new memory. -/
def FreshT (w : World) (l : List UInt8) (code : Nat) (e : Ending) (w' : World) : Prop :=
  ∃ A c, e = .returned (.tuple #[.slice A l.length c, .int .i64 code]) ∧ l.length ≤ c ∧ c ≤ maxLen ∧ Bytes w' w'.heap.size A l ∧ Below w.heap.size w w' ∧ ∀ x o, A = some ⟨x, o, none⟩ → w.heap.size ≤ x
/-- What Bytes answers. -/
def bytesR (h : H) : List UInt8 × Nat := if right h then (Hd.bytes h, 0) else ([], 50)
theorem zero32 : ∀ w, (zeroValue 37).run Try.prog w = .ok (.agg (bs (List.replicate 32 0)).toArray) w := fun w => by kernel_rfl
theorem laid (s e l : Nat) : putN ((putN (putN (List.replicate 32 0) 0 s 8) 8 e 8).set 16 (UInt8.ofNat l)) 24 s 8 = Hd.bytes ⟨s, e, l⟩ := rfl
set_option maxRecDepth 100000 in
set_option maxHeartbeats 1000000 in
theorem bytes_any (s e l : Nat) (wf : Wf ⟨s, e, l⟩) (w : World) : Calls Try.prog 10 #[.agg #[.int .u64 s, .int .u64 e, .int .u8 l]] w (FreshT w (bytesR ⟨s, e, l⟩).1 (bytesR ⟨s, e, l⟩).2) := by
  obtain ⟨hs, he, hl⟩ := wf
  have b0 := Blk.new_ w 24 #[.int .u64 s, .int .u64 e, .int .u8 l] rfl
  have hB0 := (Below.refl w.heap.size w).alloc (Nat.le_refl _) (.cells #[.int .u64 s, .int .u64 e, .int .u8 l] 24)
  go_enter Try.func10, Try.ntmps10
  go_wp2_with fail
  generalize w.alloc (.cells #[.int .u64 s, .int .u64 e, .int .u8 l] 24) = w1 at *
  refine Calls.mono (right_any s e l w1) ?_
  rintro en y1 ⟨rfl, hb⟩
  have b1 := b0.below hb b0.lt
  have hB := hB0.trans (hb.mono hB0.size)
  have hlt := b1.lt
  clear b0 hB0 hb
  cases hr : right ⟨s, e, l⟩
  · have HR : Hid (bytesR ⟨s, e, l⟩ = ([], 50)) := Lib.hid (by unfold bytesR; rw [hr]; rfl)
    clear hr
    go_wp2
    refine bodyPost_ret (v := .tuple #[.slice none 0 0, .int .i64 50]) (by simp [results, Try.results10, go_sem]) rfl ?_
    rw [HR.out]
    exact ⟨none, 0, rfl, Nat.le_refl _, by simp [maxLen], Row.nil, hB, fun _ _ e => by cases e⟩
  · have HR : Hid (bytesR ⟨s, e, l⟩ = (Hd.bytes ⟨s, e, l⟩, 0)) := Lib.hid (by unfold bytesR; rw [hr]; rfl)
    clear hr
    have hz := zero32
    obtain ⟨l0, hl0⟩ : ∃ l : List UInt8, l = List.replicate 32 0 := ⟨_, rfl⟩
    rw [← hl0] at hz
    have HL1 : Hid (l0.length = 32) := Lib.hid (by rw [hl0]; rfl)
    have HL2 : Hid ((putN l0 0 s 8).length = 32) := Lib.hid (by rw [putN_length (by rw [HL1.out]; omega) (by omega)]; exact HL1.out)
    have HL3 : Hid (((putN (putN l0 0 s 8) 8 e 8).set 16 (UInt8.ofNat l)).length = 32) := Lib.hid (by rw [List.length_set, putN_length (by rw [HL2.out]; omega) (by omega)]; exact HL2.out)
    have HX : Hid (putN ((putN (putN l0 0 s 8) 8 e 8).set 16 (UInt8.ofNat l)) 24 s 8 = Hd.bytes ⟨s, e, l⟩) := Lib.hid (by rw [hl0]; exact laid s e l)
    have q := Blk.new_ y1 37 (bs l0).toArray rfl
    have b3 := b1.alloc (.cells (bs l0).toArray 37)
    have hg := hB.size
    have hB3 := hB.alloc hg (.cells (bs l0).toArray 37)
    have hne : ¬ w.heap.size = y1.heap.size := by omega
    clear b1 hB hl0
    have b1 := b3
    have hB := hB3
    clear b3 hB3
    go_wp2_with fail
    generalize y1.alloc (.cells (bs l0).toArray 37) = W1 at *
    clear hz
    refine wp_region_heldG [] (fun _ W => W.cell? ⟨w.heap.size, 0, none⟩ = some (.int .u64 (s : Nat))) (by kernel_rfl) ?_
    change wpAnyG _ _ _ _ _ _ 4 _ _ (World.drew _)
    have q3 := q.drew
    have b3 := b1.drew
    have hB3 := hB.drew
    generalize W1.drew = V1 at *
    clear q b1 hB
    have q := q3
    have b1 := b3
    have hB := hB3
    clear q3 b3 hB3
    have hS : V1.cell? ⟨w.heap.size, 0, none⟩ = some (.int .u64 (s : Nat)) := Blk.at_ b1 0 rfl
    -- take0 take1 take2 one3 done
    refine g_take (i := 0) rfl rfl (by kernel_rfl) (by kernel_rfl) (by kernel_rfl) (by kernel_rfl) (by kernel_rfl) (fun _ _ _ h => h) hS (fun L W hL hW => by go_simp; rfl) ?_
    refine g_take (i := 1) rfl rfl (by kernel_rfl) (by kernel_rfl) (by kernel_rfl) (by kernel_rfl) (by kernel_rfl) (fun _ _ _ h => h) hS (fun L W hL hW => by go_simp; rfl) ?_
    refine g_take (i := 2) rfl rfl (by kernel_rfl) (by kernel_rfl) (by kernel_rfl) (by kernel_rfl) (by kernel_rfl) (fun _ _ _ h => h) hS (fun L W hL hW => by have q1 := hW; go_simp; rfl) ?_
    refine g_one (i := 3) rfl rfl (by kernel_rfl) fun K hK => ?_
    go_simp
    refine Calls.mono (put_any 0 s hs (by omega) l0 HL1.out _ q) ?_
    rintro e x1 ⟨⟨v1, rfl⟩, q3, hfr⟩
    have b3 := b1.fr hfr hne
    have hB3 := hB.trans (hfr.below hB.size fun j e => by cases e; exact hg)
    clear q b1 hB hfr
    have q := q3
    have b1 := b3
    have hB := hB3
    clear q3 b3 hB3
    refine hK _ _ (Blk.at_ b1 0 rfl) ?_
    clear hK K
    refine wpAnyG_done (by kernel_rfl) ?_ _
    go_simp
    go_wp2_with fail
    refine wp_region_heldG [] (fun _ W => W.cell? ⟨w.heap.size, 1, none⟩ = some (.int .u64 (e : Nat))) (by kernel_rfl) ?_
    change wpAnyG _ _ _ _ _ _ 4 _ _ (World.drew _)
    have q3 := q.drew
    have b3 := b1.drew
    have hB3 := hB.drew
    generalize x1.drew = V2 at *
    clear q b1 hB
    have q := q3
    have b1 := b3
    have hB := hB3
    clear q3 b3 hB3
    have hS : V2.cell? ⟨w.heap.size, 1, none⟩ = some (.int .u64 (e : Nat)) := Blk.at_ b1 1 rfl
    -- take0 take1 take2 one3 done
    refine g_take (i := 0) rfl rfl (by kernel_rfl) (by kernel_rfl) (by kernel_rfl) (by kernel_rfl) (by kernel_rfl) (fun _ _ _ h => h) hS (fun L W hL hW => by go_simp; rfl) ?_
    refine g_take (i := 1) rfl rfl (by kernel_rfl) (by kernel_rfl) (by kernel_rfl) (by kernel_rfl) (by kernel_rfl) (fun _ _ _ h => h) hS (fun L W hL hW => by go_simp; rfl) ?_
    refine g_take (i := 2) rfl rfl (by kernel_rfl) (by kernel_rfl) (by kernel_rfl) (by kernel_rfl) (by kernel_rfl) (fun _ _ _ h => h) hS (fun L W hL hW => by have q1 := hW; go_simp; rfl) ?_
    refine g_one (i := 3) rfl rfl (by kernel_rfl) fun K hK => ?_
    go_simp
    refine Calls.mono (put_any 8 e he (by omega) _ HL2.out _ q) ?_
    rintro e x2 ⟨⟨v2, rfl⟩, q3, hfr⟩
    have b3 := b1.fr hfr hne
    have hB3 := hB.trans (hfr.below hB.size fun j e => by cases e; exact hg)
    clear q b1 hB hfr
    have q := q3
    have b1 := b3
    have hB := hB3
    clear q3 b3 hB3
    refine hK _ _ (Blk.at_ b1 1 rfl) ?_
    clear hK K
    refine wpAnyG_done (by kernel_rfl) ?_ _
    go_simp
    have c2 := Blk.at_ b1 2 (v := .int .u8 (l : Nat)) rfl
    obtain ⟨ov, hov⟩ : ∃ v, (bs (putN (putN l0 0 s 8) 8 e 8))[16]? = some v := ⟨_, List.getElem?_eq_getElem (by rw [bs_length, putN_length (by rw [HL2.out]; omega) (by omega), HL2.out]; omega)⟩
    have c16 := Blk.at_ q 16 (v := ov) (by rw [List.getElem?_toArray]; exact hov)
    have fz := q.frozen 16
    have q3 := q.set_ 16 (.int .u8 (l : Nat))
    have e3 : (bs (putN (putN l0 0 s 8) 8 e 8)).toArray.setIfInBounds 16 (.int .u8 (l : Nat)) = (bs ((putN (putN l0 0 s 8) 8 e 8).set 16 (UInt8.ofNat l))).toArray := by
      rw [List.setIfInBounds_toArray, ← bs_set]
      congr 3
      simp; omega
    rw [e3] at q3
    have hfs : Fr (fun j => j = y1.heap.size) x2 (x2.setCell ⟨y1.heap.size, 16, none⟩ (.int .u8 (l : Nat))) := Fr.setCell (F := fun j => j = y1.heap.size) (p := ⟨y1.heap.size, 16, none⟩) (Fr.refl _ _) (.inl rfl) _
    have b3 := b1.fr hfs hne
    have hB3 := hB.trans (hfs.below hB.size fun j e => by cases e; exact hg)
    clear q b1 hB hfs hov e3
    have b1 := b3
    have hB := hB3
    have Q3 := Lib.hid q3
    clear b3 hB3 q3
    go_wp2_with fail
    clear c2 c16 fz
    generalize x2.setCell ⟨y1.heap.size, 16, none⟩ (.int .u8 (l : Nat)) = W3 at *
    have q := Q3.out
    refine wp_region_heldG [] (fun _ W => W.cell? ⟨w.heap.size, 0, none⟩ = some (.int .u64 (s : Nat))) (by kernel_rfl) ?_
    change wpAnyG _ _ _ _ _ _ 4 _ _ (World.drew _)
    have q3 := q.drew
    have b3 := b1.drew
    have hB3 := hB.drew
    generalize W3.drew = V3 at *
    clear q b1 hB
    have q := q3
    have b1 := b3
    have hB := hB3
    clear q3 b3 hB3
    have hS : V3.cell? ⟨w.heap.size, 0, none⟩ = some (.int .u64 (s : Nat)) := Blk.at_ b1 0 rfl
    -- take0 take1 take2 one3 done
    refine g_take (i := 0) rfl rfl (by kernel_rfl) (by kernel_rfl) (by kernel_rfl) (by kernel_rfl) (by kernel_rfl) (fun _ _ _ h => h) hS (fun L W hL hW => by go_simp; rfl) ?_
    refine g_take (i := 1) rfl rfl (by kernel_rfl) (by kernel_rfl) (by kernel_rfl) (by kernel_rfl) (by kernel_rfl) (fun _ _ _ h => h) hS (fun L W hL hW => by go_simp; rfl) ?_
    refine g_take (i := 2) rfl rfl (by kernel_rfl) (by kernel_rfl) (by kernel_rfl) (by kernel_rfl) (by kernel_rfl) (fun _ _ _ h => h) hS (fun L W hL hW => by have q1 := hW; go_simp; rfl) ?_
    refine g_one (i := 3) rfl rfl (by kernel_rfl) fun K hK => ?_
    go_simp
    refine Calls.mono (put_any 24 s hs (by omega) _ HL3.out _ q) ?_
    rintro e x3 ⟨⟨v3, rfl⟩, q3, hfr⟩
    have b3 := b1.fr hfr hne
    have hB3 := hB.trans (hfr.below hB.size fun j e => by cases e; exact hg)
    clear q b1 hB hfr
    have q := q3
    have b1 := b3
    have hB := hB3
    clear q3 b3 hB3
    refine hK _ _ (Blk.at_ b1 0 rfl) ?_
    clear hK K
    refine wpAnyG_done (by kernel_rfl) ?_ _
    go_simp
    go_wp2_with fail
    refine bodyPost_ret (v := .tuple #[.slice (some ⟨y1.heap.size, 0, none⟩) 32 32, .int .i64 0]) (by simp [results, Try.results10, go_sem]) rfl ?_
    rw [HR.out]
    rw [HX.out] at q
    exact ⟨_, 32, rfl, Nat.le_refl _, by simp [maxLen], Bytes.blk q q.lt _ rfl, hB, fun _ _ e => by cases e; exact hg⟩
end Go.Proofs.Ytpohefpiidlnjaa.HdW
