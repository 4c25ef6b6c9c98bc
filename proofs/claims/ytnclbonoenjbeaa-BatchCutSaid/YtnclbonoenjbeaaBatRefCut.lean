/-
  The walk of the reference's Cut; what Cut answers, read.
-/
import Derived.Test.YtnclbonoenjbeaaBatCut2
import Derived.Test.YtnclbonoenjbeaaBatSame
import Derived.Test.YtnclbonoenjbeaaBatRef
namespace Go.Proofs.Ytnclbonoenjbeaa.BatW
set_option linter.unusedVariables false
open Go.RowKit Go.Proofs Go.Proofs.Ytnclbonoenjbeaa Go.Proofs.Ytnclbonoenjbeaa.Wd Go.Proofs.Ytnclbonoenjbeaa.RecW
open Go.Proofs.Ytnclbonoenjbeaa.Bat (B)

/-- A call that answers rows. -/
def RowsOut (w : World) (ls : B) (e : Ending) (w' : World) : Prop := ∃ A c, e = .returned (.slice A ls.length c) ∧ Below w.heap.size w w' ∧ ls.length ≤ c ∧ c ≤ maxLen ∧ BRows w' w'.heap.size A ls
theorem cutN_get {b : List UInt8} {j : Nat} (h : j < parts b.length) : (cutN b)[j]'(by unfold cutN; simpa using h) = (b.drop (4096 * j)).take 4096 := by unfold cutN; simp
theorem cutN_length (b : List UInt8) : (cutN b).length = parts b.length := by unfold cutN; simp
theorem chunks_read {w : World} {G : Nat} {cur : Array Value} {b : List UInt8} (hG : Blk w G 5 cur) (hc : cur.toList.take b.length = bs b) : Reads w w.heap.size (chunks G b.length (parts b.length)) (cutN b) := by
  refine ⟨by rw [chunks_length, cutN_length], fun j hj => ?_⟩
  rw [cutN_length] at hj
  refine ⟨chunkV G b.length (4096 * j), by unfold chunks; simp [hj], ?_⟩
  rw [cutN_get hj]
  have hlen : ((b.drop (4096 * j)).take 4096).length = min 4096 (b.length - 4096 * j) := by simp
  refine ⟨some ⟨G, 4096 * j, none⟩, min 4096 (b.length - 4096 * j), by rw [hlen]; rfl, by rw [hlen]; exact Nat.le_refl _, by unfold maxLen; omega, ?_⟩
  intro i hi
  rw [bs_length, hlen] at hi
  refine ⟨G, 4096 * j, rfl, hG.lt, ?_⟩
  rw [hG.cell]
  have h1 : (cur.toList.take b.length)[4096 * j + i]? = (bs b)[4096 * j + i]? := by rw [hc]
  rw [List.getElem?_take_of_lt (by omega)] at h1
  have h2 : cur[4096 * j + i]? = (bs b)[4096 * j + i]? := by rw [← h1]; simp
  rw [h2, List.getElem?_eq_getElem (by rw [bs_length]; omega)]
  simp [bs]
theorem CutOut.rows {w w' : World} {b : List UInt8} {e : Ending} (h : CutOut w b e w') : RowsOut w (cut b) e w' := by
  obtain ⟨v, xs, rfl, hB, ho, h0, h1⟩ := h
  obtain ⟨A, c, rfl, hr⟩ := own_slice ho
  have hc : (cut b).length ≤ c ∧ c ≤ maxLen := ⟨own_le ho, RecW.own_cap ho⟩
  refine ⟨A, c, rfl, hB, hc.1, hc.2, ?_⟩
  by_cases hb : b.length = 0
  · rw [h0 hb] at hr
    have : cut b = [[]] := by unfold cut; rw [if_pos hb]
    rw [this]
    exact BRows.of_row hr (Reads.one ⟨none, 0, rfl, Nat.le_refl _, by simp [maxLen], Row.nil⟩)
  · obtain ⟨G, cur, -, hG, hcur, hx⟩ := h1 (by omega)
    rw [hx] at hr
    have : cut b = cutN b := by unfold cut; rw [if_neg hb]
    rw [this]
    exact BRows.of_row hr (chunks_read hG hcur)

set_option maxRecDepth 100000 in
set_option maxHeartbeats 4000000 in
theorem refcut_any (A : Option Addr) (c : Nat) (b : List UInt8) (n : Nat) (hn : n = b.length) (hnc : n ≤ c) (hcm : n ≤ 1000000) (hc : c ≤ maxLen) (w : World) (hI : Bytes w w.heap.size A b) :
    Calls Try.prog 24 #[.slice A n c] w (RowsOut w (cut b)) := by
  obtain ⟨i0, hi0, hz0, hz1, hz2⟩ := info_parts infoSl
  have HN := Lib.hid hn
  have HI := Lib.hid hI
  have HCM := Lib.hid hc
  clear hn hc
  by_cases h0 : n = 0
  · subst h0
    have hcut : Hid (cut b = [[]]) := Lib.hid (by unfold cut; rw [if_pos HN.out.symm])
    have hb : Hid (b = []) := Lib.hid (List.eq_nil_of_length_eq_zero HN.out.symm)
    go_enter Try.func24, Try.ntmps24
    go_wp2
    refine wp_loop_rounds 1 ?_
    rw [rounds_succ]
    have HR := Lib.hid (app1 (w := w) (t := 24) (v := .slice A 0 c) (Nat.le_refl w.heap.size))
    have HB := Lib.hid ((Below.refl w.heap.size w).alloc (Nat.le_refl _) (.cells #[.slice A 0 c] 24))
    go_wp2_with (at_builtin; refine wpList_append_row _ rfl (.tmp 22) (.tmp 24) _ rfl w.heap.size 24 i0 _ 24 Try.underlying37 hi0 hz0 hz1 hz2 rfl _ 0 [] rfl (by exact own_nil _ _ _) (w.heap.size + 1) (some ⟨w.heap.size, 0, none⟩) 1 1 [.slice A 0 c] rfl rfl (by exact HR.out) (by intro u hu; simp only [List.mem_singleton] at hu; subst hu; rfl) (by unfold maxLen; omega) (by omega) (by simp) ?_)
    intro v' w2 hown2 hgrow _ hvb
    have HB2 := Lib.hid (HB.out.grown hgrow HB.out.size (fun g hg => by cases hg))
    have hown3 : w2.ownsRow w.heap.size 24 1 v' 1 [.slice A 0 c] := hown2
    obtain ⟨A2, c2, hv2, hr2⟩ := own_slice hown3
    subst hv2
    have HF : Hid (RowsOut w (cut b) (.returned (.slice A2 1 c2)) w2) := Lib.hid (by
      rw [hcut.out]
      refine ⟨A2, c2, rfl, HB2.out, own_le hown3, RecW.own_cap hown3, BRows.of_row hr2 (Reads.one ⟨A, c, rfl, Nat.zero_le _, HCM.out, Row.nil⟩)⟩)
    clear hown2 hgrow hvb hown3 hr2
    go_wp2
    go_ret
    exact HF.out
  obtain ⟨bb, off, rfl, hbb, -⟩ := hI.at_ (j := 0) (by have := HN.out; omega)
  have HP : Hid (cut b = cutN b) := Lib.hid (by unfold cut; rw [if_neg (by have := HN.out; omega)])
  have read : ∀ j m cc, 4096 * j + m ≤ n → m = min 4096 (n - 4096 * j) → m ≤ cc → cc ≤ maxLen → SB w w.heap.size (.slice (some ⟨bb, off + 4096 * j, none⟩) m cc) ((b.drop (4096 * j)).take 4096) := fun j m cc h1 h2 h3 h4 => by
    have hl : ((b.drop (4096 * j)).take 4096).length = m := by have := HN.out; simp; omega
    refine ⟨some ⟨bb, off + 4096 * j, none⟩, cc, by rw [hl], by rw [hl]; exact h3, h4, ?_⟩
    have := (HI.out.part (4096 * j) b.length)
    rw [List.take_length] at this
    exact this.head 4096
  have RD := Lib.hid read
  clear read hI
  go_enter Try.func24, Try.ntmps24
  go_wp2
  go_loopw [0, 3] (fun bv v wr => ∃ (j k m cc : Nat) (xs : List Value), bv = .slice (some ⟨bb, off + k, none⟩) m cc ∧ Hid (k = 4096 * j) ∧ Hid (k + m = n) ∧ Hid (k + cc = c) ∧ 0 < m ∧ m ≤ cc ∧ m ≤ n ∧ j ≤ n ∧ wr.ownsRow w.heap.size 24 1 v j xs ∧ Hid (Reads w w.heap.size xs ((cutN b).take j)) ∧ Below w.heap.size w wr) (fun bv _ _ => match bv with | .slice _ m _ => m | _ => 0)
  case atStart => exact ⟨0, 0, n, c, [], rfl, Lib.hid rfl, Lib.hid (by omega), Lib.hid (by omega), by omega, hnc, Nat.le_refl _, Nat.zero_le _, own_nil _ _ _, Lib.hid Reads.nil, Below.refl _ _⟩
  case round =>
    obtain ⟨j, k, m, cc, xs, rfl, HK, HM, HC, hm0, hmc, hmn, hjn, ho, HX, hB⟩ := hrel
    have hpj : Hid (j < parts b.length) := Lib.hid (by have h1 := HK.out; have h2 := HM.out; have h3 := HN.out; unfold parts; omega)
    by_cases hlt : 4096 < m
    · have u1 : (4096 : Int) < (m : Int) := by omega
      have u2 : (4096 : Int) ≤ (cc : Int) := by omega
      have u3 : (4096 : Int) ≤ (m : Int) := by omega
      have u4 : ¬ cc = 4096 := by omega
      have HS : Hid (SB w w.heap.size (.slice (some ⟨bb, off + k, none⟩) 4096 cc) ((b.drop (4096 * j)).take 4096)) := Lib.hid (by
        have h1 := HK.out; have h2 := HM.out; have h4 := HC.out; have h5 := HCM.out
        have := RD.out j 4096 cc (by omega) (by omega) (by omega) (by omega)
        rw [show off + 4096 * j = off + k by omega] at this; exact this)
      have HTK : Hid ((cutN b).take (j + 1) = (cutN b).take j ++ [(b.drop (4096 * j)).take 4096]) := Lib.hid (by
        rw [List.take_succ_eq_append_getElem (by rw [cutN_length]; exact hpj.out), cutN_get hpj.out])
      have hbase := hB.size
      have hba := (Below.refl wr.heap.size wr).alloc (Nat.le_refl _) (.cells #[.slice (some ⟨bb, off + k, none⟩) 4096 cc] 24)
      have HO := Lib.hid (own_belowT ho hba)
      have HR := Lib.hid (app1 (w := wr) (t := 24) (v := .slice (some ⟨bb, off + k, none⟩) 4096 cc) hbase)
      have HBa := Lib.hid (hB.trans (hba.mono hbase))
      clear hba ho hlt
      go_wp2_with (at_builtin; refine wpList_append_row _ rfl (.tmp 7) (.tmp 10) _ rfl w.heap.size 24 i0 _ 24 Try.underlying37 hi0 hz0 hz1 hz2 rfl _ j xs rfl (by exact HO.out) (wr.heap.size + 1) (some ⟨wr.heap.size, 0, none⟩) 1 1 [.slice (some ⟨bb, off + k, none⟩) 4096 cc] rfl rfl (by exact HR.out) (by intro u hu; simp only [List.mem_singleton] at hu; subst hu; rfl) (by unfold maxLen; omega) (by omega) (by exact HBa.out.size) ?_)
      intro v' w2 hown2 hgrow _ hvb
      have HB2 := Lib.hid (HBa.out.grown hgrow HBa.out.size (fun g hg => (own_row HO.out hg).1))
      have HX2 : Hid (Reads w w.heap.size (xs ++ [.slice (some ⟨bb, off + k, none⟩) 4096 cc]) ((cutN b).take (j + 1))) := Lib.hid (by rw [HTK.out]; exact HX.out.append (Reads.one HS.out))
      have HO2 := Lib.hid hown2
      have HK2 : Hid (k + 4096 = 4096 * (j + 1)) := Lib.hid (by have := HK.out; omega)
      have HM2 : Hid (k + 4096 + (m - 4096) = n) := Lib.hid (by have := HM.out; omega)
      have HC2 : Hid (k + 4096 + (cc - 4096) = c) := Lib.hid (by have := HC.out; omega)
      have HJ2 : Hid (j + 1 ≤ n) := Lib.hid (by have h1 := HK.out; have h2 := HM.out; omega)
      clear hown2 hgrow hvb HO HR HBa HX HTK HS
      go_wp2_with fail
      go_roundw
      case rel => exact ⟨j + 1, k + 4096, m - 4096, cc - 4096, _, by first | rfl | (simp only [Nat.add_assoc]), HK2, HM2, HC2, by omega, by omega, by omega, HJ2.out, HO2.out, HX2, HB2.out⟩
      case measure => first | (simp; omega) | omega
    · have u1 : ¬ (4096 : Int) < (m : Int) := by omega
      have u2 : (0 : Int) < (m : Int) := by omega
      have HS : Hid (SB w w.heap.size (.slice (some ⟨bb, off + k, none⟩) m cc) ((b.drop (4096 * j)).take 4096)) := Lib.hid (by
        have h1 := HK.out; have h2 := HM.out; have h4 := HC.out; have h5 := HCM.out
        have := RD.out j m cc (by omega) (by omega) (by omega) (by omega)
        rw [show off + 4096 * j = off + k by omega] at this; exact this)
      have HTK : Hid (cutN b = (cutN b).take j ++ [(b.drop (4096 * j)).take 4096]) := Lib.hid (by
        have : (cutN b).take (j + 1) = (cutN b).take j ++ [(b.drop (4096 * j)).take 4096] := by rw [List.take_succ_eq_append_getElem (by rw [cutN_length]; exact hpj.out), cutN_get hpj.out]
        rw [← this, List.take_of_length_le]
        rw [cutN_length]
        have h1 := HK.out; have h2 := HM.out; have h3 := HN.out
        unfold parts; omega)
      have hbase := hB.size
      have hba := (Below.refl wr.heap.size wr).alloc (Nat.le_refl _) (.cells #[.slice (some ⟨bb, off + k, none⟩) m cc] 24)
      have HO := Lib.hid (own_belowT ho hba)
      have HR := Lib.hid (app1 (w := wr) (t := 24) (v := .slice (some ⟨bb, off + k, none⟩) m cc) hbase)
      have HBa := Lib.hid (hB.trans (hba.mono hbase))
      clear hba ho hlt
      go_wp2_with (at_builtin; refine wpList_append_row _ rfl (.tmp 22) (.tmp 24) _ rfl w.heap.size 24 i0 _ 24 Try.underlying37 hi0 hz0 hz1 hz2 rfl _ j xs rfl (by exact HO.out) (wr.heap.size + 1) (some ⟨wr.heap.size, 0, none⟩) 1 1 [.slice (some ⟨bb, off + k, none⟩) m cc] rfl rfl (by exact HR.out) (by intro u hu; simp only [List.mem_singleton] at hu; subst hu; rfl) (by unfold maxLen; omega) (by omega) (by exact HBa.out.size) ?_)
      intro v' w2 hown2 hgrow _ hvb
      have HB2 := Lib.hid (HBa.out.grown hgrow HBa.out.size (fun g hg => (own_row HO.out hg).1))
      obtain ⟨A2, c2, hv2, hr2⟩ := own_slice hown2
      subst hv2
      have HF : Hid (RowsOut w (cut b) (.returned (.slice A2 (j + 1) c2)) w2) := Lib.hid (by
        rw [HP.out]
        have hl : (cutN b).length = j + 1 := by
          rw [cutN_length]
          have h1 := HK.out; have h2 := HM.out; have h3 := HN.out
          unfold parts; omega
        refine ⟨A2, c2, by rw [hl], HB2.out, by rw [hl]; exact own_le hown2, RecW.own_cap hown2, ?_⟩
        have hx : Reads w w.heap.size (xs ++ [.slice (some ⟨bb, off + k, none⟩) m cc]) (cutN b) := by rw [HTK.out]; exact HX.out.append (Reads.one HS.out)
        exact BRows.of_row hr2 ((hx.below HB2.out).more HB2.out.size))
      clear hown2 hgrow hvb HO HR HBa HX HTK HS hr2
      go_wp2_with fail
      go_ret
      exact HF.out
end Go.Proofs.Ytnclbonoenjbeaa.BatW
