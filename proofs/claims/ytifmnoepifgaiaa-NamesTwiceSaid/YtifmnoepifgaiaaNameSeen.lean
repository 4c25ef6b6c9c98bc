/-
  The walks of place, owners, Seen, Twice.
-/
import Derived.Test.YtifmnoepifgaiaaNameTable
namespace Go.Proofs.Ytifmnoepifgaiaa.NmW
set_option linter.unusedVariables false
open Go Go.RowKit Go.Maps Go.Proofs Go.Proofs.Ytifmnoepifgaiaa Go.Proofs.Ytifmnoepifgaiaa.Wd Go.Proofs.Ytifmnoepifgaiaa.ScW Go.Proofs.Ytifmnoepifgaiaa.Nm
open Go.Proofs.Ytifmnoepifgaiaa.Sc (N own flow rightAt right chain place chainI deep over below owned)

theorem nplace_any (A : Option Addr) (c : Nat) (ns : List N) (n : Nat) (hn : n = ns.length) (i : Int) (w : World) :
    Calls Try.prog 18 #[.slice A n c, .int .i64 i] w fun e w' => e = .returned (.bool (place ns i)) ∧ w = w' := by
  subst hn
  by_cases h1 : 0 ≤ i
  · have u1 : decide ((0 : Int) ≤ i) = true := by simpa using h1
    have hp : Hid (decide (i < (ns.length : Int)) = place ns i) := Lib.hid (by unfold place; rw [u1]; simp)
    go_enter Try.func18, Try.ntmps18
    go_wp2
    go_ret
    exact ⟨by rw [← hp.out]; rfl, rfl⟩
  · have u1 : decide ((0 : Int) ≤ i) = false := by simpa using h1
    have hp : Hid (place ns i = false) := Lib.hid (by unfold place; rw [u1]; simp)
    go_enter Try.func18, Try.ntmps18
    go_wp2
    go_ret
    exact ⟨by rw [hp.out]; rfl, rfl⟩
/-- A place, then its chain's owners, then none. -/
def ownersI (ns : List N) (i : Int) : List Int := toI (chainI ns i) ++ [-1]
set_option maxRecDepth 100000 in
set_option maxHeartbeats 4000000 in
theorem owners_any (A : Option Addr) (c : Nat) (ns : List N) (n : Nat) (hn : n = ns.length) (hnc : n ≤ c) (hnb : n ≤ 1000000000) (hr : right ns = true) (i : Int) (w : World) (hI : Nodes w w.heap.size A ns) :
    Calls Try.prog 19 #[.slice A n c, .int .i64 i] w (IntsOut w (ownersI ns i)) := by
  have HI := Lib.hid hI
  have HN := Lib.hid hn
  have hcl : (chainI ns i).length ≤ n := by rw [hn]; exact chainI_length
  obtain ⟨i0, hi0, hz0, hz1, hz2⟩ := info_parts infoInt
  clear hI hn
  go_enter Try.func19, Try.ntmps19
  go_wp2_with fail
  refine (chain_any A c ns n HN.out hnc (by omega) hr i w HI.out).mono ?_
  rintro e w1 ⟨A1, c1, rfl, hB, ho⟩
  rw [toI_length] at ho ⊢
  have hnew := heap_alloc_new w1 (.cells #[.int .i64 (-1)] 3)
  generalize hcc : (chainI ns i).length = F at *
  have HCC := Lib.hid hcc
  clear hcc
  have hbs := hB.size
  go_wp2_with (first | (at_builtin; refine wpList_append_lies _ rfl (.tmp 7) (.tmp 8) _ rfl w.heap.size 3 i0 _ 1 8 Try.underlying22 hi0 hz0 hz1 hz2 rfl (by omega) _ F _ rfl (ho.alloc _) ⟨w1.heap.size, 0, none⟩ 1 1 [.int .i64 (-1)] rfl rfl (World.news_of_block hnew) (by intro u hu; simp at hu; subst hu; rfl) (by omega) (by unfold maxLen; omega) (by omega) (by simp; omega) (w1.heap.size + 1) (by simp) ?_))
  intro g cap w2 hown2 hgrow _ _
  have hB2 := (hB.alloc hB.size (.cells #[.int .i64 (-1)] 3)).grown hgrow (by simp; omega) (fun j hj => (own_row (ho.alloc (.cells #[.int .i64 (-1)] 3)) hj).1)
  have R1 : Hid (World.ownsRow w2 w.heap.size 3 1 (.slice (some ⟨g, 0, none⟩) (F + 1) cap) (F + 1) (iv (ownersI ns i)) ∧ Below w.heap.size w w2 ∧ (ownersI ns i).length = F + 1) := Lib.hid ⟨by
    unfold ownersI
    rw [iv_append]; exact hown2, hB2, by unfold ownersI; rw [List.length_append, toI_length, HCC.out]; rfl⟩
  clear hgrow hown2 ho hnew hB hB2
  go_wp2
  go_ret
  exact ⟨some ⟨g, 0, none⟩, cap, by rw [R1.out.2.2]; rfl, R1.out.2.1, by rw [R1.out.2.2]; exact R1.out.1⟩
/-- Who is seen, of the scopes of these owners. -/
def seenL (ns : List N) (ss : List Str) (f : Int) (s : Str) (os : List Int) : Option Nat := os.findSome? fun o => lookN ns ss ns.length (f, o, s)
theorem seen_eq {ns : List N} {ss : List Str} {i : Int} {s : Str} (h : place ns i = true) : seenN ns ss i s = seenL ns ss (flow ns i.toNat) s (ownersI ns i) := by
  unfold seenN seenL ownersI toI chainI
  rw [if_pos h, if_pos h]
theorem seenL_take {ns : List N} {ss : List Str} {f : Int} {s : Str} {os : List Int} {j : Nat} (hj : j < os.length) (h : seenL ns ss f s (os.take j) = none) : seenL ns ss f s (os.take (j + 1)) = lookN ns ss ns.length (f, os[j], s) := by
  unfold seenL at h ⊢
  rw [List.take_succ_eq_append_getElem hj, List.findSome?_append, h]
  cases h2 : lookN ns ss ns.length (f, os[j], s) <;> simp [h2]
theorem seenL_some {ns : List N} {ss : List Str} {f : Int} {s : Str} {os : List Int} {j v : Nat} (h : seenL ns ss f s (os.take j) = some v) : seenL ns ss f s os = some v := by
  unfold seenL at h ⊢
  rw [← List.take_append_drop j os, List.findSome?_append, h]
  rfl
theorem ownersI_bounds {ns : List N} {i o : Int} (h : o ∈ ownersI ns i) : -1 ≤ o ∧ o < max 1 i := by
  unfold ownersI at h
  rw [List.mem_append] at h
  rcases h with h | h
  · unfold toI chainI at h
    split at h
    · rename_i hp
      obtain ⟨k, hk, rfl⟩ := List.mem_map.1 h
      have := Sc.chain_lt ns i.toNat k hk
      constructor
      · omega
      · omega
    · cases h
  · simp at h
    subst h
    omega
set_option maxRecDepth 100000 in
set_option maxHeartbeats 8000000 in
theorem seen_in (A : Option Addr) (c : Nat) (ns : List N) (ss : List Str) (n : Nat) (hn : n = ns.length) (hnc : n ≤ c) (hcm : c ≤ maxLen) (hnb : n ≤ 1000000000) (hr : right ns = true) (hg : ∀ k, k < n → KOk (key ns ss k)) (i : Nat) (hi : i < n) (s : ByteArray) (hs : s.size ≤ maxLen) (w : World) (hI : NNodes w w.heap.size A ns ss) :
    Calls Try.prog 9 #[.slice A n c, .int .i64 (i : Int), .string s] w fun e w' => e = .returned (.tuple #[.int .i64 (((seenN ns ss (i : Int) s).getD 0 : Nat) : Int), .bool (seenN ns ss (i : Int) s).isSome]) ∧ Below w.heap.size w w' := by
  have HN := Lib.hid hn
  have HI := Lib.hid hI
  have HG := Lib.hid hg
  have HS := Lib.hid hs
  have HT := Lib.hid (table_any A c ns ss n hn hnc hcm hnb hg w hI)
  have hp : place ns (i : Int) = true := Sc.place_nat (by omega)
  have HP := Lib.hid hp
  unfold maxLen at hcm
  clear hn hI hg hs hp
  go_enter Try.func9, Try.ntmps9
  go_wp2_with fail
  refine (nplace_any A c ns n HN.out (i : Int) w).mono ?_
  rintro e w1 ⟨rfl, rfl⟩
  rw [HP.out]
  go_wp2_with fail
  refine HT.out.mono ?_
  rintro e w1 ⟨mb, rfl, m1, m2, m3, B1⟩
  have HM := Lib.hid m3
  have HB1 := Lib.hid B1
  clear HT m3 B1
  go_wp2_with fail
  refine (owners_any A c ns n HN.out hnc hnb hr (i : Int) w1 (HI.out.1.grow HB1.out)).mono ?_
  intro e w2 ho
  obtain ⟨A2, c2, rfl, B2, hO, k1, k2⟩ := ho.nums rfl
  unfold maxLen at k2
  have HO := Lib.hid hO
  have HB2 := Lib.hid B2
  have hol : (ownersI ns (i : Int)).length ≤ n + 1 := by
    unfold ownersI
    rw [List.length_append, toI_length]
    have := chainI_length (ns := ns) (i := (i : Int))
    rw [HN.out]
    simp
    omega
  generalize hos : ownersI ns (i : Int) = os at *
  have HOS := Lib.hid hos
  generalize hq : os.length = q at *
  have HQ := Lib.hid hq
  clear hos hq hO B2 ho
  obtain ⟨b, off, hA, hb, hc⟩ := HI.out.1.flow_at (show i < ns.length by have := HN.out; omega)
  subst hA
  have HC := Lib.hid hc
  have HBB := Lib.hid hb
  clear hc hb
  have hsz := HB1.out.size
  go_wp2_with fail
  go_loop [27] (fun ix => ∃ j : Nat, j ≤ q ∧ ix = .int .i64 j ∧ Hid (seenL ns ss (flow ns i) s (os.take j) = none)) (fun ix => q - (intOf ix).toNat)
  case atStart => exact ⟨0, Nat.zero_le _, rfl, Lib.hid rfl⟩
  case round =>
    obtain ⟨j, hj, rfl, HSE⟩ := hrel
    by_cases hlt : j < q
    · have hjl : j < os.length := by have := HQ.out; omega
      obtain ⟨b2, off2, rfl, hb2, p2⟩ := HO.out.at_ hjl
      have hob := ownersI_bounds (ns := ns) (i := (i : Int)) (o := os[j]) (by rw [HOS.out]; exact List.getElem_mem hjl)
      have hst := seenL_take hjl HSE.out
      have q3 : w2.cell? ⟨b, off + i * 16 + 3, none⟩ = some (.int .i64 (flow ns i)) := (HB2.out.cell (p := ⟨b, _, none⟩) (Nat.lt_of_lt_of_le HBB.out HB1.out.size)).trans ((HB1.out.cell (p := ⟨b, _, none⟩) HBB.out).trans HC.out)
      have HK : Hid (KS w2 mb n (lookN ns ss n)) := Lib.hid (HM.out.below HB2.out m2)
      have hw1 : (Lit.int .i64 os[j]).wf = true := WalkArith.wf_i64 (by omega)
      have hkf : KOk (flow ns i, os[j], s) := ⟨(HG.out i hi).1, hw1, HS.out⟩
      have HKF := Lib.hid hkf
      rw [← HN.out] at hst
      generalize os[j] = o at *
      have HST := Lib.hid hst
      have i1 : (0 : Int) ≤ (j : Int) := by omega
      have i2 : (j : Int) < (q : Int) := by omega
      have i3 : (0 : Int) ≤ (i : Int) := by omega
      have i4 : (i : Int) < (n : Int) := by omega
      generalize hfl : flow ns i = fl at *
      have HFL := Lib.hid hfl
      clear hob hst hkf hjl hw1 hfl
      cases hlk : lookN ns ss n (fl, o, s) with
      | some v =>
        have HLK := Lib.hid hlk
        have HF : Hid (seenN ns ss (i : Int) s = some v) := Lib.hid (by
          rw [seen_eq HP.out, Int.toNat_natCast, HFL.out, HOS.out]
          exact seenL_some (j := j + 1) (by rw [HST.out]; exact HLK.out))
        clear hlk
        go_wp2_with (first | (at_lookup; refine wpList_lookup_ks _ rfl (.tmp 32) (.tmp 40) rfl mb n _ rfl HK.out fl o s rfl HKF.out (some v) HLK.out ?_) | fail)
        go_ret2
        rw [HF.out]
        exact ⟨rfl, HB1.out.trans (HB2.out.mono HB1.out.size)⟩
      | none =>
        have HLK := Lib.hid hlk
        have HF : Hid (seenL ns ss fl s (os.take (j + 1)) = none) := Lib.hid (by rw [HST.out]; exact HLK.out)
        clear hlk
        go_wp2_with (first | (at_lookup; refine wpList_lookup_ks _ rfl (.tmp 32) (.tmp 40) rfl mb n _ rfl HK.out fl o s rfl HKF.out none HLK.out ?_) | fail)
        go_round
        case rel => exact ⟨j + 1, by omega, by go_num, HF⟩
        case measure => simp [intOf]; omega
    · obtain rfl : j = q := by omega
      have HF : Hid (seenN ns ss (i : Int) s = none) := Lib.hid (by
        rw [seen_eq HP.out, Int.toNat_natCast, HOS.out]
        have := HSE.out
        rw [List.take_of_length_le (Nat.le_of_eq HQ.out)] at this
        exact this)
      go_wp2_with fail
      go_ret2
      rw [HF.out]
      exact ⟨rfl, HB1.out.trans (HB2.out.mono HB1.out.size)⟩
/-- Who is seen: the answer. -/
def SeenOut (w : World) (r : Option Nat) (e : Ending) (w' : World) : Prop := e = .returned (.tuple #[.int .i64 ((r.getD 0 : Nat) : Int), .bool r.isSome]) ∧ Below w.heap.size w w'
theorem seen_any (A : Option Addr) (c : Nat) (ns : List N) (ss : List Str) (n : Nat) (hn : n = ns.length) (hnc : n ≤ c) (hcm : c ≤ maxLen) (hnb : n ≤ 1000000000) (hr : right ns = true) (hg : ∀ k, k < n → KOk (key ns ss k)) (i : Int) (s : ByteArray) (hs : s.size ≤ maxLen) (w : World) (hI : NNodes w w.heap.size A ns ss) :
    Calls Try.prog 9 #[.slice A n c, .int .i64 i, .string s] w (SeenOut w (seenN ns ss i s)) := by
  by_cases hp : place ns i = true
  · have h1 : 0 ≤ i ∧ i < (ns.length : Int) := by unfold place at hp; simpa using hp
    obtain ⟨k, rfl⟩ : ∃ k : Nat, i = (k : Int) := ⟨i.toNat, by omega⟩
    exact seen_in A c ns ss n hn hnc hcm hnb hr hg k (by omega) s hs w hI
  · have hp : place ns i = false := by simpa using hp
    have HF : Hid (seenN ns ss i s = none) := Lib.hid (by unfold seenN; rw [hp]; rfl)
    have HP := Lib.hid hp
    have HN := Lib.hid hn
    clear hp hn
    go_enter Try.func9, Try.ntmps9
    go_wp2_with fail
    refine (nplace_any A c ns n HN.out i w).mono ?_
    rintro e w1 ⟨rfl, rfl⟩
    rw [HP.out]
    go_wp2_with fail
    go_ret2
    rw [HF.out]
    exact ⟨rfl, Below.refl _ _⟩
theorem twice_any (A : Option Addr) (c : Nat) (ns : List N) (ss : List Str) (n : Nat) (hn : n = ns.length) (hnc : n ≤ c) (hcm : c ≤ maxLen) (hnb : n ≤ 1000000000) (hg : ∀ k, k < n → KOk (key ns ss k)) (w : World) (hI : NNodes w w.heap.size A ns ss) :
    Calls Try.prog 13 #[.slice A n c] w fun e w' => e = .returned (.bool (twiceTo ns ss n)) ∧ Below w.heap.size w w' := by
  have HT := Lib.hid (table_any A c ns ss n hn hnc hcm hnb hg w hI)
  clear hn hg hI
  go_enter Try.func13, Try.ntmps13
  go_wp2_with fail
  refine HT.out.mono ?_
  rintro e w1 ⟨mb, rfl, m1, m2, m3, B1⟩
  have HB := Lib.hid B1
  clear HT m3 B1 m1 m2
  go_wp2_with fail
  go_ret
  exact ⟨rfl, HB.out⟩
end Go.Proofs.Ytifmnoepifgaiaa.NmW
