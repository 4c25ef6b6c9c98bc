/-
  The walk of All.
-/
import Derived.Test.YtifmnoepifgaiaaNameSort
namespace Go.Proofs.Ytifmnoepifgaiaa.NmW
set_option linter.unusedVariables false
open Go Go.RowKit Go.Maps Go.Sort Go.Shelf Go.Proofs Go.Proofs.Ytifmnoepifgaiaa Go.Proofs.Ytifmnoepifgaiaa.Wd Go.Proofs.Ytifmnoepifgaiaa.ScW Go.Proofs.Ytifmnoepifgaiaa.Nm Go.Proofs.Ytifmnoepifgaiaa.NmL
open Go.Proofs.Ytifmnoepifgaiaa.Sc (N own flow rightAt right chain place chainI deep over below owned)

theorem own_grown {W W' : World} {base n : Nat} {e : TypeId} {v : Value} {xs : List Value} (h : W.ownsRow base e 1 v n xs) {mb : Nat} (hg : W.grownBy W' (some mb)) (hr : mb < base) : W'.ownsRow base e 1 v n xs :=
  own_keep h fun g hv => by
    obtain ⟨h1, cs, h2⟩ := own_row h hv
    exact hg.block g h2.lt (fun e => by cases e; omega)
/-- The names of these scopes. -/
def namesL (ns : List N) (ss : List Str) (f : Int) (os : List Int) (x : List UInt8) : Prop := ∃ o ∈ os, ∃ k ∈ owned ns f o, (nm ss k).data.toList = x
/-- All names that are seen. -/
def namesN (ns : List N) (ss : List Str) (i : Int) (x : List UInt8) : Prop := place ns i = true ∧ x ≠ [] ∧ namesL ns ss (flow ns i.toNat) (ownersI ns i) x
theorem namesL_take {ns : List N} {ss : List Str} {f : Int} {os : List Int} {j : Nat} (hj : j < os.length) (x : List UInt8) : (namesL ns ss f (os.take j) x ∨ ∃ k ∈ owned ns f os[j], (nm ss k).data.toList = x) ↔ namesL ns ss f (os.take (j + 1)) x := by
  unfold namesL
  rw [List.take_succ_eq_append_getElem hj]
  constructor
  · rintro (⟨o, ho, h⟩ | h)
    · exact ⟨o, List.mem_append_left _ ho, h⟩
    · exact ⟨_, List.mem_append_right _ (List.mem_singleton.2 rfl), h⟩
  · rintro ⟨o, ho, h⟩
    rcases List.mem_append.1 ho with ho | ho
    · exact .inl ⟨o, ho, h⟩
    · rw [List.mem_singleton.1 ho] at h
      exact .inr h
theorem owned_lt {ns : List N} {f o : Int} {k : Nat} (h : k ∈ owned ns f o) : k < ns.length := by
  unfold owned at h
  simpa using (List.mem_filter.1 h).1
theorem owned_length {ns : List N} {f o : Int} : (owned ns f o).length ≤ ns.length := by
  rw [owned_fil]
  exact fil_le _ _
/-- What the inner loop holds. -/
structure AllI (w wi : World) (mb t : Nat) (S : List UInt8 → Prop) (base base2 : Nat) (v2 v3 : Value) (q q3 : Nat) (xs ys : List Value) : Prop where
  map : SS wi mb t S
  low : Below mb w wi
  os : wi.ownsRow base 3 1 v2 q xs
  rk : wi.ownsRow base2 3 1 v3 q3 ys
set_option maxRecDepth 100000 in
set_option maxHeartbeats 16000000 in
theorem all_in (A : Option Addr) (c : Nat) (ns : List N) (ss : List Str) (n : Nat) (hn : n = ns.length) (hnc : n ≤ c) (hcm : c ≤ maxLen) (hnb : n ≤ 1000) (hr : right ns = true) (hg : ∀ k, k < n → KOk (key ns ss k)) (i : Nat) (hi : i < n) (w : World) (hI : NNodes w w.heap.size A ns ss) :
    Calls Try.prog 7 #[.slice A n c, .int .i64 (i : Int)] w (NamesOut w (namesN ns ss (i : Int))) := by
  have HN := Lib.hid hn
  have HI := Lib.hid hI
  have HG := Lib.hid hg
  have hp : place ns (i : Int) = true := Sc.place_nat (by omega)
  have HP := Lib.hid hp
  have HCM := Lib.hid hcm
  have hmm := @run_makeMap Try.prog
  unfold maxLen at hcm
  clear hn hI hg hp
  go_enter Try.func7, Try.ntmps7
  go_wp2_with fail
  refine (nplace_any A c ns n HN.out (i : Int) w).mono ?_
  rintro e w1 ⟨rfl, rfl⟩
  rw [HP.out]
  go_wp2_with fail
  have HM0 := Lib.hid (SS.made w)
  have HB0 : Hid (Below w.heap.size w (w.alloc (.map #[] 0))) := Lib.hid ((Below.refl _ w).alloc (Nat.le_refl _) _)
  refine (owners_any A c ns n HN.out hnc (by omega) hr (i : Int) _ (HI.out.1.grow HB0.out)).mono ?_
  rintro e w2 ⟨A2, c2, rfl, B2, O2⟩
  have hol : (ownersI ns (i : Int)).length ≤ n + 1 := by
    unfold ownersI
    rw [List.length_append, toI_length]
    have := chainI_length (ns := ns) (i := (i : Int))
    rw [HN.out]
    simp
    omega
  generalize hos : ownersI ns (i : Int) = os at *
  have HOS := Lib.hid hos
  generalize hq : os.length = q at *
  have HQ := Lib.hid hq
  have hqc := own_le O2
  have hqm := own_cap' O2
  unfold maxLen at hqm
  have hsz : (w.alloc (.map #[] 0)).heap.size = w.heap.size + 1 := by simp
  rw [hsz] at O2
  have HA0 : Hid (SS w2 w.heap.size 0 (namesL ns ss (flow ns i) (os.take 0)) ∧ Below w.heap.size w w2 ∧ w2.ownsRow (w.heap.size + 1) 3 1 (.slice A2 q c2) q (iv os)) := Lib.hid ⟨(HM0.out.below B2 (by rw [hsz]; omega)).congr (fun x => by unfold namesL; simp), HB0.out.trans (B2.mono (by rw [hsz]; omega)), O2⟩
  clear hos hq O2 B2 HM0 HB0 hmm hsz
  obtain ⟨b, off, hA, hb, hc⟩ := HI.out.1.flow_at (show i < ns.length by have := HN.out; omega)
  subst hA
  have HC := Lib.hid hc
  have HBB := Lib.hid hb
  clear hc hb
  generalize hmb : w.heap.size = mb at *
  go_wp2_with fail
  go_loopw [19] (fun ix wr => ∃ j : Nat, j ≤ q ∧ ix = .int .i64 j ∧ Hid (SS wr mb (1000 * j) (namesL ns ss (flow ns i) (os.take j)) ∧ Below mb w wr ∧ wr.ownsRow (mb + 1) 3 1 (.slice A2 q c2) q (iv os))) (fun ix _ => q - (intOf ix).toNat)
  case atStart => exact ⟨0, Nat.zero_le _, rfl, HA0⟩
  case round =>
    obtain ⟨j, hj, rfl, HS⟩ := hrel
    clear HA0
    by_cases hlt : j < q
    · have hjl : j < os.length := by have := HQ.out; omega
      obtain ⟨b2, off2, rfl, hb2, p2⟩ := (Nums.of_own HS.out.2.2).1.at_ hjl
      have q3 : wr.cell? ⟨b, off + i * 16 + 3, none⟩ = some (.int .i64 (flow ns i)) := (HS.out.2.1.cell (p := ⟨b, _, none⟩) HBB.out).trans HC.out
      have hst := fun x => namesL_take (ns := ns) (ss := ss) (f := flow ns i) hjl x
      have HST := Lib.hid hst
      generalize os[j] = o at *
      have HNW : Hid (Nodes wr wr.heap.size (some ⟨b, off, none⟩) ns) := Lib.hid ((HI.out.1.below HS.out.2.1).more (by have := HS.out.2.1.size; omega))
      have i1 : (0 : Int) ≤ (j : Int) := by omega
      have i2 : (j : Int) < (q : Int) := by omega
      have i3 : (0 : Int) ≤ (i : Int) := by omega
      have i4 : (i : Int) < (n : Int) := by omega
      clear hst hjl hb2
      generalize hwx : wr = wx at *
      clear hwx
      go_wp2_with fail
      refine (own_any _ c ns n HN.out hnc HCM.out (by omega) (flow ns i) o wx HNW.out).mono ?_
      rintro e w3 ⟨A3, c3, rfl, B3, O3⟩
      rw [toI_length] at O3 ⊢
      have hq3 : (owned ns (flow ns i) o).length ≤ n := by rw [HN.out]; exact owned_length
      have hkl : ∀ k ∈ owned ns (flow ns i) o, k < n := fun k hk => by rw [HN.out]; exact owned_lt hk
      generalize hrk : owned ns (flow ns i) o = rk at *
      have HRK := Lib.hid hrk
      generalize hqk : rk.length = qk at *
      have HQK := Lib.hid hqk
      have h3c := own_le O3
      have h3m := own_cap' O3
      unfold maxLen at h3m
      have HKL := Lib.hid hkl
      have HAI : Hid (AllI w w3 mb (1000 * j + 0) (fun x => namesL ns ss (flow ns i) (os.take j) x ∨ ∃ k ∈ rk.take 0, (nm ss k).data.toList = x) (mb + 1) wx.heap.size (.slice (some ⟨b2, off2, none⟩) q c2) (.slice A3 qk c3) q qk (iv os) (iv (toI rk)) ∧ mb < wx.heap.size) := Lib.hid ⟨⟨(HS.out.1.below B3 HS.out.1.lt).congr (fun x => by simp), HS.out.2.1.trans (B3.mono (Nat.le_of_lt HS.out.1.lt)), own_belowW HS.out.2.2 B3, O3⟩, HS.out.1.lt⟩
      clear hrk hqk B3 O3 hkl p2 q3 HNW
      go_wp2_with fail
      go_loopw [32] (fun ix wi => ∃ p : Nat, p ≤ qk ∧ ix = .int .i64 p ∧ Hid (AllI w wi mb (1000 * j + p) (fun x => namesL ns ss (flow ns i) (os.take j) x ∨ ∃ k ∈ rk.take p, (nm ss k).data.toList = x) (mb + 1) wx.heap.size (.slice (some ⟨b2, off2, none⟩) q c2) (.slice A3 qk c3) q qk (iv os) (iv (toI rk)))) (fun ix _ => qk - (intOf ix).toNat)
      case atStart => exact ⟨0, Nat.zero_le _, rfl, Lib.hid HAI.out.1⟩
      case round =>
        obtain ⟨p, hp, rfl, HT⟩ := hrel
        by_cases hlp : p < qk
        · have hpl : p < rk.length := by have := HQK.out; omega
          obtain ⟨b3, off3, rfl, hb3, p3⟩ := (Nums.of_own HT.out.rk).1.at_ (j := p) (by rw [toI_length]; exact hpl)
          have hk := HKL.out _ (List.getElem_mem hpl)
          have e3 : (toI rk)[p]'(by rw [toI_length]; exact hpl) = ((rk[p] : Nat) : Int) := by simp [toI]
          rw [e3] at p3
          have htk : rk.take (p + 1) = rk.take p ++ [rk[p]] := List.take_succ_eq_append_getElem hpl
          have HTK := Lib.hid htk
          generalize rk[p] = k at *
          clear htk e3 hpl hb3
          obtain ⟨b4, off4, hA4, hb4, p4⟩ := HI.out.2 k (by have := HN.out; omega)
          have hA5 : b = b4 ∧ off = off4 := by
            simp only [Option.some.injEq, Addr.mk.injEq, and_true] at hA4
            exact hA4
          obtain ⟨rfl, rfl⟩ := hA5
          have q4 := (HT.out.low.cell (p := ⟨b, _, none⟩) hb4).trans p4
          have hsm : (nm ss k).size ≤ maxLen := (HG.out k hk).2.2
          have HSM := Lib.hid hsm
          obtain ⟨cc, hcc, hrun⟩ := HT.out.map.look (nm ss k) hsm
          have i5 : (0 : Int) ≤ (p : Int) := by omega
          have i6 : (p : Int) < (qk : Int) := by omega
          have i7 : (0 : Int) ≤ (k : Int) := by omega
          have i8 : (k : Int) < (n : Int) := by omega
          clear p4 hA4 hb4 hsm
          generalize hnx : nm ss k = sx at *
          have HNX := Lib.hid hnx
          clear hnx
          generalize hwi : wr = wi at *
          clear hwi
          go_wp2_with (first | (at_mapUpdate; refine wpList_update_ss _ rfl _ _ _ rfl mb (1000 * j + p) _ rfl HT.out.map (by omega) sx rfl HSM.out (cc + 1) rfl (by omega) ?_; intro wu hku hgu) | fail)
          have HNN : Hid (AllI w wu mb (1000 * j + (p + 1)) (fun x => namesL ns ss (flow ns i) (os.take j) x ∨ ∃ k ∈ rk.take (p + 1), (nm ss k).data.toList = x) (mb + 1) wx.heap.size (.slice (some ⟨b2, off2, none⟩) q c2) (.slice (some ⟨b3, off3, none⟩) qk c3) q qk (iv os) (iv (toI rk))) := Lib.hid (by
            refine ⟨hku.congr (fun x => ?_), HT.out.low.grown hgu (Nat.le_of_lt HT.out.map.lt) (fun j hj => by cases hj; exact Nat.le_refl _), own_grown HT.out.os hgu (by omega), own_grown HT.out.rk hgu HAI.out.2⟩
            rw [HTK.out]
            constructor
            · rintro ((h | ⟨k', h1, h2⟩) | h)
              · exact .inl h
              · exact .inr ⟨k', List.mem_append_left _ h1, h2⟩
              · exact .inr ⟨k, List.mem_append_right _ (List.mem_singleton.2 rfl), by rw [HNX.out]; exact h.symm⟩
            · rintro (h | ⟨k', h1, h2⟩)
              · exact .inl (.inl h)
              · rcases List.mem_append.1 h1 with h1 | h1
                · exact .inl (.inr ⟨k', h1, h2⟩)
                · rw [List.mem_singleton.1 h1, HNX.out] at h2
                  exact .inr h2.symm)
          clear hku hgu HT hrun q4 p3
          go_wp2_with fail
          go_roundw
          case rel => exact ⟨p + 1, by omega, by go_num, HNN⟩
          case measure => simp [intOf]; omega
        · obtain rfl : p = qk := by omega
          have HNN : Hid (SS wr mb (1000 * (j + 1)) (namesL ns ss (flow ns i) (os.take (j + 1))) ∧ Below mb w wr ∧ wr.ownsRow (mb + 1) 3 1 (.slice (some ⟨b2, off2, none⟩) q c2) q (iv os)) := Lib.hid (by
            refine ⟨?_, HT.out.low, HT.out.os⟩
            have h := HT.out.map.congr (fun x => ?_) (S' := namesL ns ss (flow ns i) (os.take (j + 1)))
            · obtain ⟨D, h1, h2⟩ := h
              exact ⟨D, h1.mono (by omega), h2.1, h2.2.1, fun x => by obtain ⟨c', h3, h4⟩ := h2.2.2.1 x; exact ⟨c', by omega, h4⟩, by have := h2.2.2.2; omega⟩
            · rw [← HST.out x, List.take_of_length_le (Nat.le_of_eq HQK.out)])
          clear HT
          go_wp2_with fail
          go_roundw
          case rel => exact ⟨j + 1, by omega, by go_num, HNN⟩
          case measure => simp [intOf]; omega
    · obtain rfl : j = q := by omega
      have HS2 := Lib.hid HS.out
      clear HS
      generalize hwx : wr = wx at *
      clear hwx
      have hs0 : ({ data := #[] } : ByteArray).size ≤ maxLen := by decide
      have HS0 := Lib.hid hs0
      clear hs0
      go_wp2_with (first | (at_delete; refine wpList_delete_ss _ rfl _ _ rfl mb (1000 * j) _ rfl HS2.out.1 { data := #[] } rfl HS0.out ?_; intro wu hku hgu) | fail)
      have HF : Hid (SS wu mb (1000 * j) (namesN ns ss (i : Int)) ∧ Below mb w wu) := Lib.hid ⟨hku.congr (fun x => by
        unfold namesN
        rw [List.take_of_length_le (Nat.le_of_eq HQ.out), HOS.out, HP.out, Int.toNat_natCast]
        constructor
        · rintro ⟨h1, h2⟩
          exact ⟨rfl, h2, h1⟩
        · rintro ⟨_, h2, h1⟩
          exact ⟨h1, h2⟩), HS2.out.2.1.grown hgu (Nat.le_of_lt HS2.out.1.lt) (fun j hj => by cases hj; exact Nat.le_refl _)⟩
      clear hku hgu HS2
      go_wp2_with fail
      refine (keys_c mb wu).mono ?_
      rintro e w5 ⟨rfl, rfl⟩
      go_wp2_with fail
      refine (sorted_c mb (1000 * j) _ wu HF.out.1 (by omega)).mono ?_
      rintro e w6 ⟨A6, c6, ls, rfl, B6, O6, h6, m6⟩
      have HR : Hid (NamesOut w (namesN ns ss (i : Int)) (.returned (.slice A6 ls.length c6)) w6) := Lib.hid ⟨A6, c6, ls, rfl, by rw [hmb]; exact HF.out.2.trans (B6.mono (Nat.le_of_lt HF.out.1.lt)), own_base O6 (by rw [hmb]; exact Nat.le_of_lt HF.out.1.lt), h6, m6⟩
      clear B6 O6 h6 m6
      go_wp2_with fail
      go_ret
      exact HR.out
theorem all_any (A : Option Addr) (c : Nat) (ns : List N) (ss : List Str) (n : Nat) (hn : n = ns.length) (hnc : n ≤ c) (hcm : c ≤ maxLen) (hnb : n ≤ 1000) (hr : right ns = true) (hg : ∀ k, k < n → KOk (key ns ss k)) (i : Int) (w : World) (hI : NNodes w w.heap.size A ns ss) :
    Calls Try.prog 7 #[.slice A n c, .int .i64 i] w (NamesOut w (namesN ns ss i)) := by
  by_cases hp : place ns i = true
  · have h1 : 0 ≤ i ∧ i < (ns.length : Int) := by unfold place at hp; simpa using hp
    obtain ⟨k, rfl⟩ : ∃ k : Nat, i = (k : Int) := ⟨i.toNat, by omega⟩
    exact all_in A c ns ss n hn hnc hcm hnb hr hg k (by omega) w hI
  · have hp : place ns i = false := by simpa using hp
    have HP := Lib.hid hp
    have HN := Lib.hid hn
    clear hp hn
    go_enter Try.func7, Try.ntmps7
    go_wp2_with fail
    refine (nplace_any A c ns n HN.out i w).mono ?_
    rintro e w1 ⟨rfl, rfl⟩
    rw [HP.out]
    go_wp2_with fail
    go_ret
    exact ⟨none, 0, [], rfl, Below.refl _ _, own_nil _ _ _, List.Pairwise.nil, fun x => by unfold namesN; rw [HP.out]; simp⟩
end Go.Proofs.Ytifmnoepifgaiaa.NmW
