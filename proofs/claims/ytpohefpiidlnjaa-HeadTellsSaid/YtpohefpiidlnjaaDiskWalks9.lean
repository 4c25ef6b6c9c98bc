/-
  The walks of Head, Write, SyncHead.
-/
import Derived.Test.YtpohefpiidlnjaaDiskWalks7
import Derived.Deep.MidRow
namespace Go.Proofs.Ytpohefpiidlnjaa.Dk
set_option linter.unusedVariables false
open Go Go.RowKit Go.Shelf Go.Proofs Go.Proofs.Ytpohefpiidlnjaa Go.Proofs.Ytpohefpiidlnjaa.Wd

/-- Bytes that lie in memory that is new. -/
def FreshB (w : World) (l : List UInt8) (e : Ending) (w' : World) : Prop :=
  ∃ A c, e = .returned (.slice A l.length c) ∧ l.length ≤ c ∧ c ≤ maxLen ∧ Bytes w' w'.heap.size A l ∧ Below w.heap.size w w' ∧ ∀ x o, A = some ⟨x, o, none⟩ → w.heap.size ≤ x
/-- The cells of a slot. -/
def slotC (s : DS) (i : Nat) : List Value := bs (s.sl i) ++ bs (s.lo i) ++ [.bool (s.wr i)]
section
variable {w w' : World} {base : Nat} {F G : Nat → Prop} {g : Nat} {s : DS} {cs : Array Value} {v : Nat → Value} {vf : Value} {R : Nat → Nat → Prop} {fb : Nat → Prop}
theorem slotC_len (h : Ok s) {i : Nat} (hi : i < 2) : (slotC s i).length = 65 := by
  unfold slotC; rw [List.length_append, List.length_append, bs_length, bs_length, h.sl i hi, h.lo i hi]; rfl
theorem slotC_lo (h : Ok s) {i : Nat} (hi : i < 2) {j : Nat} (hj : j < 32) : (slotC s i)[32 + j]? = (bs (s.lo i))[j]? := by
  unfold slotC
  rw [List.append_assoc, List.getElem?_append_right (by rw [bs_length, h.sl i hi]; omega), bs_length, h.sl i hi, List.getElem?_append_left (by rw [bs_length, h.lo i hi]; omega)]
  congr 1; omega
theorem slotC_sl (h : Ok s) {i : Nat} (hi : i < 2) {j : Nat} (hj : j < 32) : (slotC s i)[j]? = (bs (s.sl i))[j]? := by
  unfold slotC
  rw [List.append_assoc, List.getElem?_append_left (by rw [bs_length, h.sl i hi]; omega)]
theorem slotC_wr (h : Ok s) {i : Nat} (hi : i < 2) : (slotC s i)[64]? = some (.bool (s.wr i)) := by
  unfold slotC
  rw [List.getElem?_append_right (by rw [List.length_append, bs_length, bs_length, h.sl i hi, h.lo i hi]; omega), List.length_append, bs_length, bs_length, h.sl i hi, h.lo i hi]
  rfl
theorem At'.slot (h : At' w base F g s cs v vf R fb) {i : Nat} (hi : i < 2) : w.rangeAt g (6 + i * 65) (slotC s i) := fun j u hu => by
  have hj : j < 65 := by have := (List.getElem?_eq_some_iff.1 hu).1; rw [slotC_len h.ok hi] at this; exact this
  refine h.cell ?_
  by_cases h1 : j < 32
  · rw [slotC_sl h.ok hi h1] at hu; exact (h.cells.sl i hi j h1).trans hu
  · by_cases h2 : j < 64
    · obtain ⟨m, rfl⟩ : ∃ m, j = 32 + m := ⟨j - 32, by omega⟩
      rw [slotC_lo h.ok hi (by omega)] at hu
      rw [← Nat.add_assoc]
      exact (h.cells.lo i hi m (by omega)).trans hu
    · obtain rfl : j = 64 := by omega
      rw [slotC_wr h.ok hi] at hu
      exact (h.cells.wr i hi).trans hu
theorem At'.loose (h : At' w base F g s cs v vf R fb) {i : Nat} (hi : i < 2) : w.rangeAt g (6 + i * 65 + 32) (bs (s.lo i)) := fun j u hu => by
  have hj : j < 32 := by have := (List.getElem?_eq_some_iff.1 hu).1; rw [bs_length, h.ok.lo i hi] at this; exact this
  exact h.cell ((h.cells.lo i hi j hj).trans hu)
theorem At'.there (h : At' w base F g s cs v vf R fb) {o n : Nat} (hn : o + n ≤ 138) : w.there g o n := fun j hj => by
  have hl : o + j < cs.size := by rw [h.cells.size]; omega
  exact ⟨by rw [h.cell (Array.getElem?_eq_getElem hl)]; rfl, h.blk.frozen _⟩
theorem bs_one32 {l : List UInt8} (h : l.length = 32) : (bs l).toArray.size = 32 := by rw [List.size_toArray, bs_length, h]
theorem zero_slot : ∃ z : Array Value, z.size = 65 ∧ ∀ w, (zeroValue 53).run Try.prog w = .ok (.agg z) w := ⟨#[.int .u8 0, .int .u8 0, .int .u8 0, .int .u8 0, .int .u8 0, .int .u8 0, .int .u8 0, .int .u8 0, .int .u8 0, .int .u8 0, .int .u8 0, .int .u8 0, .int .u8 0, .int .u8 0, .int .u8 0, .int .u8 0, .int .u8 0, .int .u8 0, .int .u8 0, .int .u8 0, .int .u8 0, .int .u8 0, .int .u8 0, .int .u8 0, .int .u8 0, .int .u8 0, .int .u8 0, .int .u8 0, .int .u8 0, .int .u8 0, .int .u8 0, .int .u8 0, .int .u8 0, .int .u8 0, .int .u8 0, .int .u8 0, .int .u8 0, .int .u8 0, .int .u8 0, .int .u8 0, .int .u8 0, .int .u8 0, .int .u8 0, .int .u8 0, .int .u8 0, .int .u8 0, .int .u8 0, .int .u8 0, .int .u8 0, .int .u8 0, .int .u8 0, .int .u8 0, .int .u8 0, .int .u8 0, .int .u8 0, .int .u8 0, .int .u8 0, .int .u8 0, .int .u8 0, .int .u8 0, .int .u8 0, .int .u8 0, .int .u8 0, .int .u8 0, .bool false], rfl, fun w => by kernel_rfl⟩
/-- What is read of a slot. -/
def hd (s : DS) (i : Int) : List UInt8 := if s.dead then [] else if decide (i = 0) || decide (i = 1) then (if s.wr i.toNat then s.lo i.toNat else s.sl i.toNat) else []
set_option maxRecDepth 100000 in
set_option maxHeartbeats 1000000 in
theorem head_any (h : At w base F g s) (i : Int) : Calls Try.prog 16 #[.pointer (some ⟨g, 0, none⟩), .int .i64 i] w (FreshB w (hd s i)) := by
  have h0 := h
  obtain ⟨cs, v, vf, R, fb, h⟩ := h
  go_enter Try.func16, Try.ntmps16
  go_wp2_with fail
  refine Calls.mono (none_any h0) ?_
  rintro e w1 ⟨rfl, rfl⟩
  clear h0
  cases hdd : s.dead
  · go_wp2_with fail
    refine Calls.mono (among_any i _) ?_
    rintro e w1 ⟨rfl, rfl⟩
    rcases among_cases i with ⟨k, rfl, hk⟩ | hn
    · rw [among_yes hk]
      have HR : Hid (hd s (k : Int) = if s.wr k then s.lo k else s.sl k) := Lib.hid (by unfold hd; rw [hdd, if_neg (by simp), among_yes hk, if_pos rfl]; rfl)
      have hr := h.slot hk
      have hlen := slotC_len h.ok hk
      have HL0 := Lib.hid (h.ok.lo k hk)
      have HS0 := Lib.hid (h.ok.sl k hk)
      have HLO := Lib.hid (fun j => slotC_lo h.ok hk (j := j))
      have HSL := Lib.hid (fun j => slotC_sl h.ok hk (j := j))
      have hwr := slotC_wr h.ok hk
      have hone : ∀ u ∈ (slotC s k).toArray.toList, u.oneCell' = true := fun u hu => by
        have hu : u ∈ bs (s.sl k) ++ bs (s.lo k) ++ [.bool (s.wr k)] := by simpa [slotC] using hu
        rw [List.mem_append, List.mem_append] at hu
        rcases hu with (h1 | h1) | h1
        · exact bs_one _ u h1
        · exact bs_one _ u h1
        · rw [List.mem_singleton.1 h1]; rfl
      have hi1 : (Try.prog.info? 53).map (·.size) = some (slotC s k).length := by rw [hlen]; kernel_rfl
      have hi2 : (Try.prog.info? 53).map (·.size) = some (slotC s k).toArray.size := by rw [List.size_toArray]; exact hi1
      have HH : Hid ((slotC s k).toArray.size = 65) := Lib.hid (by rw [List.size_toArray]; exact hlen)
      generalize slotC s k = sc at *
      have i1 : (0 : Int) ≤ (k : Int) := by omega
      have i2 : (k : Int) < 2 := by omega
      have HI1 := Lib.hid hi1
      have HI2 := Lib.hid hi2
      have HONE := Lib.hid hone
      have HR1 := Lib.hid hr
      have HWR := Lib.hid hwr
      clear h hdd hk hlen hi1 hi2 hone hr hwr
      obtain ⟨z, hzs, hz0⟩ := zero_slot
      have q0 := (Blk.new_ w 53 z (n := w.heap.size) rfl).row sc.toArray
      have hb := (Below.refl w.heap.size w).alloc (Nat.le_refl _) (.cells z 53)
      have hb2 : Below w.heap.size w ((w.alloc (.cells z 53)).setRow w.heap.size sc.toArray) := hb.trans ⟨rfl, rfl, rfl, by simp [World.setRow], fun j hj => setRow_other _ _ _ _ (by omega)⟩
      have c1 := Blk.at_ q0 64 (v := .bool (s.wr k)) (by simpa using HWR.out)
      have HZ := Lib.hid hzs
      have hlt := q0.lt
      have QB := Lib.hid q0
      clear hb q0 hzs
      cases hw : s.wr k
      · rw [hw] at c1
        have HW := Lib.hid hw
        clear hw
        go_wp2_with (first
          | refine wpList_load_mid rfl 53 (.tmp 17) rfl g (6 + k * 65) rfl sc _ HR1.out Try.underlying53 rfl HI1.out ?_
          | refine wpList_put_row rfl rfl 53 (.tmp 5) (.tmp 18) rfl w.heap.size rfl 53 z sc.toArray rfl (Blk.new_ w _ _ rfl) HI2.out (HZ.out.trans HH.out.symm) HONE.out ?_)
        generalize (w.alloc (.cells z 53)).setRow w.heap.size sc.toArray = w3 at *
        go_ret
        rw [HR.out, HW.out]
        refine ⟨some ⟨w.heap.size, 0, none⟩, 32, by rw [if_neg (by simp), HS0.out]; rfl, by rw [if_neg (by simp), HS0.out]; exact Nat.le_refl _, by simp [maxLen], ?_, hb2, fun x o e => by cases e; exact Nat.le_refl _⟩
        rw [if_neg (by simp)]
        intro j hj
        rw [bs_length, HS0.out] at hj
        refine ⟨w.heap.size, 0, rfl, hlt, ?_⟩
        exact Blk.at_ QB.out (0 + j) (by rw [Nat.zero_add, List.getElem?_toArray, HSL.out j hj]; exact List.getElem?_eq_getElem _)
      · rw [hw] at c1
        have HW := Lib.hid hw
        clear hw
        go_wp2_with (first
          | refine wpList_load_mid rfl 53 (.tmp 17) rfl g (6 + k * 65) rfl sc _ HR1.out Try.underlying53 rfl HI1.out ?_
          | refine wpList_put_row rfl rfl 53 (.tmp 5) (.tmp 18) rfl w.heap.size rfl 53 z sc.toArray rfl (Blk.new_ w _ _ rfl) HI2.out (HZ.out.trans HH.out.symm) HONE.out ?_)
        generalize (w.alloc (.cells z 53)).setRow w.heap.size sc.toArray = w3 at *
        go_ret
        rw [HR.out, HW.out]
        refine ⟨some ⟨w.heap.size, 32, none⟩, 32, by rw [if_pos rfl, HL0.out]; rfl, by rw [if_pos rfl, HL0.out]; exact Nat.le_refl _, by simp [maxLen], ?_, hb2, fun x o e => by cases e; exact Nat.le_refl _⟩
        rw [if_pos rfl]
        intro j hj
        rw [bs_length, HL0.out] at hj
        refine ⟨w.heap.size, 32, rfl, hlt, ?_⟩
        exact Blk.at_ QB.out (32 + j) (by rw [List.getElem?_toArray, HLO.out j hj]; exact List.getElem?_eq_getElem _)
    · rw [hn]
      have HR : Hid (hd s i = []) := Lib.hid (by unfold hd; rw [hdd, hn]; rfl)
      clear h hdd hn
      go_wp2
      go_ret
      rw [HR.out]
      exact ⟨none, 0, rfl, Nat.le_refl _, by simp [maxLen], Row.nil, Below.refl _ _, fun _ _ e => by cases e⟩
  · have HR : Hid (hd s i = []) := Lib.hid (by unfold hd; rw [hdd]; rfl)
    clear h hdd
    go_wp2
    go_ret
    rw [HR.out]
    exact ⟨none, 0, rfl, Nat.le_refl _, by simp [maxLen], Row.nil, Below.refl _ _, fun _ _ e => by cases e⟩
/-- What Write makes of a slot. -/
def putS (k : Nat) (b : List UInt8) (s : DS) : DS := { s with lo := upd s.lo k b, wr := upd s.wr k true }
set_option maxRecDepth 100000 in
set_option maxHeartbeats 1000000 in
theorem do_write {w : World} (h : At w base F g s) {k : Nat} (hk : k < 2) {A : Option Addr} {n c B : Nat} {b : List UInt8} (hn : n = b.length) (hl : b.length = 32) (hI : Bytes w B A b) {B5 B8 : Nat} (q5 : Blk w B5 25 #[.slice A n c]) (q8 : Blk w B8 84 #[.pointer (some ⟨g, 6 + k * 65, none⟩)]) :
    Calls Try.prog 41 #[.pointer (some ⟨B8, 0, none⟩), .pointer (some ⟨B5, 0, none⟩)] w fun e w' => (∃ v, e = .returned v) ∧ Next w base F g (putS k b s) w' := by
  obtain ⟨cs, v, vf, R, fb, h⟩ := h
  have hd := h.below ((Below.refl _ w).drew)
  have ok1 : Ok { s with lo := upd s.lo k b } := ⟨h.ok.cap, h.ok.room, h.ok.safe, h.ok.sl, fun i hi => by
    show (upd s.lo k b i).length = 32
    by_cases e : i = k
    · subst e; rw [upd_eq, hl]
    · rw [upd_ne e]; exact h.ok.lo i hi, h.ok.fuse⟩
  obtain ⟨cs2, k1, k2, k3⟩ := setCells_get (vs := bs b) (o := 6 + k * 65 + 32) hd.blk (by rw [bs_length, hl, h.cells.size]; omega)
  have h4 := hd.cells_set (6 + k * 65 + 32) (bs b) (s' := { s with lo := upd s.lo k b }) ok1 k1 (h.cells.copy_lo hk hl k2 k3) ⟨rfl, rfl⟩
  have hfr4 : Fr F w (w.drew.setCells g (6 + k * 65 + 32) (bs b)) := Fr.setCells g _ _ ((Fr.refl _ w).drew) (.inl h.fg)
  have hfr4g : Fr (fun j => j = g) w (w.drew.setCells g (6 + k * 65 + 32) (bs b)) := Fr.setCells g _ _ ((Fr.refl _ w).drew) (.inl rfl)
  have fz4 := h4.blk.frozen (6 + k * 65 + 64)
  have cw4 := h4.cell (h4.cells.wr k hk)
  have HN : Hid (Next w base F g (putS k b s) ((w.drew.setCells g (6 + k * 65 + 32) (bs b)).setCell ⟨g, 6 + k * 65 + 64, none⟩ (.bool true))) := Lib.hid
    ⟨F, ⟨_, _, _, _, _, h4.set_ (6 + k * 65 + 64) (.bool true) (s' := putS k b s) ⟨h4.ok.cap, h4.ok.room, h4.ok.safe, h4.ok.sl, h4.ok.lo, h4.ok.fuse⟩ (h4.cells.set_wr hk true) (fun _ _ => ⟨rfl, rfl⟩) ⟨rfl, rfl⟩⟩, Fr.setCell (p := ⟨g, 6 + k * 65 + 64, none⟩) hfr4 (.inl h.fg) _, fun _ h => .inl h⟩
  have d5 := Blk.at_ q5 0 (v := .slice A n c) rfl
  have d8 := Blk.at_ q8 0 (v := .pointer (some ⟨g, 6 + k * 65, none⟩)) rfl
  have hbg : B8 ≠ g := Blk.ne_ q8 h.blk (by decide)
  have hbg5 : B5 ≠ g := Blk.ne_ q5 h.blk (by decide)
  have e8 := Blk.at_ (q8.fr hfr4g (fun e => hbg e)) 0 (v := .pointer (some ⟨g, 6 + k * 65, none⟩)) rfl
  have e5 := Blk.at_ (q5.fr hfr4g (fun e => hbg5 e)) 0 (v := .slice A n c) rfl
  have HS3 : Hid ((w.drew.setCells g (6 + k * 65 + 32) (bs b)).cell? ⟨B8, 0, none⟩ = some (.pointer (some ⟨g, 6 + k * 65, none⟩)) ∧ (w.drew.setCells g (6 + k * 65 + 32) (bs b)).cell? ⟨B5, 0, none⟩ = some (.slice A n c)) := Lib.hid ⟨e8, e5⟩
  have HLN : Hid ((bs b).length = Nat.min n 32) := Lib.hid (by rw [bs_length, hn, hl]; rfl)
  obtain ⟨bb, off, hA, hblt, hcell⟩ := hI.at_ (j := 0) (by omega)
  have HSRC : Hid (∀ j u, (bs b)[j]? = some u → w.drew.cell? ((⟨bb, off, none⟩ : Addr).add j) = some u) := Lib.hid fun j u hu => by
    have hj : j < b.length := by have := (List.getElem?_eq_some_iff.1 hu).1; rw [bs_length] at this; exact this
    obtain ⟨b', o', hA', -, hc'⟩ := hI.at_ (j := j) hj
    rw [hA] at hA'
    cases hA'
    rw [Addr.add_lit]
    rw [List.getElem?_eq_some_iff] at hu
    obtain ⟨hu1, hu2⟩ := hu
    rw [← hu2]
    show w.cell? _ = some ((bs b)[j])
    rw [hc']
    simp [bs]
  have HDST : Hid (∀ j, j < (bs b).length → (w.drew.cell? ⟨g, 6 + k * 65 + 32 + j, none⟩).isSome = true) := Lib.hid fun j hj => by
    rw [bs_length, hl] at hj
    have hlo := h.ok.lo k hk
    rw [hd.cell ((h.cells.lo k hk j (by omega)).trans (List.getElem?_eq_getElem (by rw [bs_length]; omega)))]; rfl
  have HFZ : Hid (∀ j, j < (bs b).length → w.drew.frozen? ⟨g, 6 + k * 65 + 32 + j, none⟩ = false) := Lib.hid fun j _ => hd.blk.frozen _
  subst hA
  have j1 : (0 : Int) ≤ (k : Int) := by omega
  have j2 : (k : Int) < 2 := by omega
  clear h hd ok1 k1 k2 k3 h4 hfr4 hfr4g q5 q8 e8 e5 hI hcell hn hl
  go_enter Try.func41, Try.ntmps41
  go_wp2_with fail
  refine wp_region_heldG [] (fun _ W => W.cell? ⟨B8, 0, none⟩ = some (.pointer (some ⟨g, 6 + k * 65, none⟩)) ∧ W.cell? ⟨B5, 0, none⟩ = some (.slice (some ⟨bb, off, none⟩) n c)) (by kernel_rfl) ?_
  change wpAnyG _ _ _ _ _ _ 6 _ _ (World.drew _)
  have hS : w.drew.cell? ⟨B8, 0, none⟩ = some (.pointer (some ⟨g, 6 + k * 65, none⟩)) ∧ w.drew.cell? ⟨B5, 0, none⟩ = some (.slice (some ⟨bb, off, none⟩) n c) := ⟨d8, d5⟩
  -- take0 take1 take2 take3 take4 one5 done
  refine g_take (i := 0) rfl rfl (by kernel_rfl) (by kernel_rfl) (by kernel_rfl) (by kernel_rfl) (by kernel_rfl) (fun _ _ _ h => h) hS (fun L W hL hW => by have q1 := hW.1; have q2 := hW.2; go_simp; rfl) ?_
  refine g_take (i := 1) rfl rfl (by kernel_rfl) (by kernel_rfl) (by kernel_rfl) (by kernel_rfl) (by kernel_rfl) (fun _ _ _ h => h) hS (fun L W hL hW => by go_simp; rfl) ?_
  refine g_take (i := 2) rfl rfl (by kernel_rfl) (by kernel_rfl) (by kernel_rfl) (by kernel_rfl) (by kernel_rfl) (fun _ _ _ h => h) hS (fun L W hL hW => by go_simp; rfl) ?_
  refine g_take (i := 3) rfl rfl (by kernel_rfl) (by kernel_rfl) (by kernel_rfl) (by kernel_rfl) (by kernel_rfl) (fun _ _ _ h => h) hS (fun L W hL hW => by go_simp; rfl) ?_
  refine g_take (i := 4) rfl rfl (by kernel_rfl) (by kernel_rfl) (by kernel_rfl) (by kernel_rfl) (by kernel_rfl) (fun _ _ _ h => h) hS (fun L W hL hW => by have q1 := hW.1; have q2 := hW.2; go_simp; rfl) ?_
  refine g_one (i := 5) rfl rfl (by kernel_rfl) fun K hK => ?_
  refine wp_copy_run _ (.tmp 5) (.tmp 6) _ _ rfl _ _ rfl rfl (run_copy_cells (P := Try.prog) _ 25 25 _ 5 g (6 + k * 65 + 32) 32 32 ⟨bb, off, none⟩ n c (bs b) Try.underlying25 (by kernel_rfl) HLN.out HSRC.out HDST.out HFZ.out (bs_one _)) ?_
  refine hK _ _ HS3.out ?_
  clear hK K
  refine wpAnyG_done (by kernel_rfl) ?_ _
  have d9 := HS3.out.1
  go_simp
  go_wp2
  go_end0
  exact ⟨⟨_, rfl⟩, HN.out⟩
/-- What Write answers, and makes of a disk. -/
def wrD (s : DS) (i : Int) (b : List UInt8) : Nat × DS :=
  if s.dead then (3, s) else if (decide (i = 0) || decide (i = 1)) = false then (2, s) else if b.length = 32 then after s (putS i.toNat b) (fun _ s => s) else (2, s)
set_option maxRecDepth 100000 in
set_option maxHeartbeats 1000000 in
theorem write_any {w : World} (h : At w base F g s) (i : Int) {A : Option Addr} {n c : Nat} {b : List UInt8} (hn : n = b.length) (hI : Bytes w w.heap.size A b) (hAF : b ≠ [] → ∀ x o, A = some ⟨x, o, none⟩ → ¬ F x) :
    Calls Try.prog 17 #[.pointer (some ⟨g, 0, none⟩), .int .i64 i, .slice A n c] w fun e w' => e = .returned (.int .i64 ((wrD s i b).1 : Nat)) ∧ Next w base F g (wrD s i b).2 w' := by
  have hBx := (Below.refl w.heap.size w).alloc (Nat.le_refl _) (.cells #[.slice A n c] 25)
  have q5 := Blk.new_ w 25 #[.slice A n c] rfl
  have d5 := Blk.at_ q5 0 (v := .slice A n c) rfl
  have hA1 := h.below hBx
  have hI1 := hI.grow hBx
  have hFx : ¬ F w.heap.size := fun e => by have := (h.lt e).2; omega
  have hlx := q5.lt
  have HN0 := Lib.hid hn
  have HBX := Lib.hid hBx
  have HA0 := Lib.hid hA1
  clear h hA1 hI hn hBx
  go_enter Try.func17, Try.ntmps17
  go_wp2_with fail
  generalize w.alloc (.cells #[.slice A n c] 25) = w0 at *
  refine Calls.mono (why_any HA0.out) ?_
  rintro e w1 ⟨rfl, rfl⟩
  cases hd : s.dead
  rotate_left
  · have HR : Hid (wrD s i b = (3, s)) := Lib.hid (by unfold wrD; rw [if_pos hd])
    have HNX := Lib.hid (Next.trans (w := w) (s' := s) (Fr.of_below HBX.out F) (fun _ h => .inl h) (Next.refl HA0.out))
    simp only [if_true]
    clear hd
    go_wp2_with fail
    go_ret
    rw [HR.out]
    exact ⟨rfl, HNX.out⟩
  simp only [Bool.false_eq_true, if_false]
  go_wp2_with fail
  refine Calls.mono (among_any i w0) ?_
  rintro e w2 ⟨rfl, rfl⟩
  rcases among_cases i with ⟨k, rfl, hk⟩ | hno
  rotate_left
  · have HR : Hid (wrD s i b = (2, s)) := Lib.hid (by unfold wrD; rw [if_neg (by rw [hd]; simp), if_pos hno])
    have HNX := Lib.hid (Next.trans (w := w) (s' := s) (Fr.of_below HBX.out F) (fun _ h => .inl h) (Next.refl HA0.out))
    rw [hno]
    clear hd hno
    go_wp2_with fail
    go_ret
    rw [HR.out]
    exact ⟨rfl, HNX.out⟩
  rw [among_yes hk]
  by_cases h32 : n = 32
  rotate_left
  · have HR : Hid (wrD s (k : Int) b = (2, s)) := Lib.hid (by unfold wrD; rw [if_neg (by rw [hd]; simp), if_neg (by rw [among_yes hk]; simp), if_neg (by rw [← HN0.out]; exact h32)])
    have HNX := Lib.hid (Next.trans (w := w) (s' := s) (Fr.of_below HBX.out F) (fun _ h => .inl h) (Next.refl HA0.out))
    have u1 : ((n : Int) == 32) = false := by rw [beq_eq_false_iff_ne]; omega
    have u2 : ¬ (n : Int) = 32 := by omega
    clear hd h32
    go_wp2_with fail
    go_ret
    rw [HR.out]
    exact ⟨rfl, HNX.out⟩
  subst h32
  have HR : Hid (wrD s (k : Int) b = after s (putS k b) (fun _ s => s)) := Lib.hid (by
    unfold wrD; rw [if_neg (by rw [hd]; simp), if_neg (by rw [among_yes hk]; simp), if_pos HN0.out.symm]; rfl)
  have j1 : (0 : Int) ≤ (k : Int) := by omega
  have j2 : (k : Int) < 2 := by omega
  have hB := (Below.refl w0.heap.size w0).alloc (Nat.le_refl _) (.cells #[.pointer (some ⟨g, 6 + k * 65, none⟩)] 84)
  have hz := Blk.new_ w0 84 #[.pointer (some ⟨g, 6 + k * 65, none⟩)] rfl
  have hF : ¬ F w0.heap.size := fun e => by have := (HA0.out.lt e).2; omega
  have q53 := q5.below hB hlx
  have hI2 := hI1.grow hB
  clear hd q5 hI1
  go_wp2_with fail
  generalize w0.alloc (.cells #[.pointer (some ⟨g, 6 + k * 65, none⟩)] 84) = w5 at *
  have hA5 := HA0.out.below hB
  refine Calls.mono (change_any hA5 41 42 #[.pointer (some ⟨w0.heap.size, 0, none⟩), .pointer (some ⟨w.heap.size, 0, none⟩)] #[] (putS k b) (fun _ s => s)
    (enters_of Try.func41 (by kernel_rfl) rfl) (enters_of Try.func42 (by kernel_rfl) rfl) rfl
    (fun W o hW hf => do_write (s := fused s o) hW hk HN0.out HN0.out.symm (hI2.fr hf hAF) (q53.fr hf hFx) (hz.fr hf hF))
    (fun p _ => nothing_any hA5 p)) ?_
  rintro e w6 ⟨rfl, hN⟩
  have HNX : Hid (Next w base F g (after s (putS k b) (fun _ s => s)).2 w6) := Lib.hid (Next.trans (s' := s) (Fr.of_below HBX.out F) (fun _ h => .inl h) (Next.trans (s' := s) (Fr.of_below hB F) (fun _ h => .inl h) hN))
  clear hN hA5 hB hz hI2 q53
  go_wp2_with fail
  go_ret
  rw [HR.out]
  exact ⟨rfl, HNX.out⟩
/-- What SyncHead makes of a slot; of the first ones. -/
def syS (k : Nat) (s : DS) : DS := if s.wr k then { s with sl := upd s.sl k (s.lo k), wr := upd s.wr k false } else s
def sySs (s : DS) : Nat → DS
  | 0 => s
  | n + 1 => syS n (sySs s n)
theorem syS_fused (k : Nat) (s : DS) (o : Option (Nat × Nat)) : syS k (fused s o) = fused (syS k s) o := by
  unfold syS
  show (if s.wr k then _ else _) = _
  cases s.wr k <;> rfl
theorem sySs_fused (s : DS) (o : Option (Nat × Nat)) : ∀ n, sySs (fused s o) n = fused (sySs s n) o
  | 0 => rfl
  | n + 1 => by
    show syS n (sySs (fused s o) n) = fused (syS n (sySs s n)) o
    rw [sySs_fused s o n, syS_fused]
theorem sySs_fuse (s : DS) (n : Nat) : (sySs s n).fuse = s.fuse := by
  have h := sySs_fused s s.fuse n
  rw [show fused s s.fuse = s from rfl] at h
  rw [h]; rfl
set_option maxRecDepth 100000 in
set_option maxHeartbeats 1000000 in
theorem do_syncHead {w : World} (h : At w base F g s) {B1 : Nat} (q1 : Blk w B1 38 #[.pointer (some ⟨g, 0, none⟩)]) (hB1 : ¬ F B1) :
    Calls Try.prog 44 #[.pointer (some ⟨B1, 0, none⟩)] w fun e w' => (∃ v, e = .returned v) ∧ Next w base F g (sySs s 2) w' := by
  have HA0 := Lib.hid (Next.refl h)
  have hlt1 := q1.lt
  have Q1 := Lib.hid q1
  clear h q1
  go_enter Try.func44, Try.ntmps44
  go_wp2_with fail
  go_loopw [3] (fun ix wr => ∃ i : Nat, i ≤ 2 ∧ ix = .int .i64 i ∧ Next w base F g (sySs s i) wr) (fun ix _ => 2 - (intOf ix).toNat)
  case atStart => exact ⟨0, by omega, rfl, HA0.out⟩
  case round =>
    obtain ⟨i, hi, rfl, F', ⟨cs, v, vf, R, fb, h⟩, hfr, hF'⟩ := hrel
    by_cases hlt : i < 2
    · have HCS : Hid (sySs s (i + 1) = syS i (sySs s i)) := Lib.hid rfl
      generalize sySs s i = s2 at *
      have d1 := Blk.at_ (Q1.out.fr hfr hB1) 0 (v := .pointer (some ⟨g, 0, none⟩)) rfl
      have cw := h.cell (h.cells.wr i hlt)
      have j1 : (0 : Int) ≤ (i : Int) := by omega
      have j2 : (i : Int) < 2 := by omega
      cases hwr : s2.wr i
      · rw [hwr] at cw
        have HCS2 : Hid (sySs s (i + 1) = s2) := Lib.hid (by rw [HCS.out]; unfold syS; rw [hwr, if_neg (by simp)])
        have HNX : Hid (Next w base F g s2 wr) := Lib.hid ⟨F', ⟨_, _, _, _, _, h⟩, hfr, hF'⟩
        clear h hwr hfr hF' HCS
        go_wp2_with fail
        go_roundw
        case rel => exact ⟨i + 1, by omega, by go_num, by rw [HCS2.out]; exact HNX.out⟩
        case measure => simp [intOf]; omega
      · rw [hwr] at cw
        have HCS2 : Hid (sySs s (i + 1) = { s2 with sl := upd s2.sl i (s2.lo i), wr := upd s2.wr i false }) := Lib.hid (by rw [HCS.out]; unfold syS; rw [hwr, if_pos rfl])
        have hlo := h.ok.lo i hlt
        have HRG := Lib.hid (h.loose hlt)
        have HTH : Hid (wr.there g (6 + i * 65) (bs (s2.lo i)).toArray.size) := Lib.hid (h.there (by rw [bs_one32 hlo]; omega))
        have ok1 : Ok { s2 with sl := upd s2.sl i (s2.lo i) } := ⟨h.ok.cap, h.ok.room, h.ok.safe, fun j hj => by
          show (upd s2.sl i (s2.lo i) j).length = 32
          by_cases e : j = i
          · subst e; rw [upd_eq, hlo]
          · rw [upd_ne e]; exact h.ok.sl j hj, h.ok.lo, h.ok.fuse⟩
        have e32 : s2.lo i ++ (s2.sl i).drop (s2.lo i).length = s2.lo i := by rw [hlo, List.drop_of_length_le (by rw [h.ok.sl i hlt]; omega), List.append_nil]
        obtain ⟨cs4, k1, k2, k3⟩ := setCells_get (vs := bs (s2.lo i)) (o := 6 + i * 65) h.blk (by rw [bs_length, hlo, h.cells.size]; omega)
        have hc4 := h.cells.copy_sl hlt (l := s2.lo i) (by omega) (h.ok.sl i hlt) k2 k3
        rw [e32] at hc4
        have h4 := h.cells_set (6 + i * 65) (bs (s2.lo i)) (s' := { s2 with sl := upd s2.sl i (s2.lo i) }) ok1 k1 hc4 ⟨rfl, rfl⟩
        have hfr4 : Fr F' wr (wr.setCells g (6 + i * 65) (bs (s2.lo i))) := Fr.setCells g _ _ (Fr.refl _ wr) (.inl h.fg)
        have cw4 := h4.cell (h4.cells.wr i hlt)
        have fz4 := h4.blk.frozen (6 + i * 65 + 64)
        have HNX : Hid (Next w base F g { s2 with sl := upd s2.sl i (s2.lo i), wr := upd s2.wr i false } ((wr.setCells g (6 + i * 65) (bs (s2.lo i))).setCell ⟨g, 6 + i * 65 + 64, none⟩ (.bool false))) := Lib.hid (Next.trans (s' := s2) hfr hF'
          ⟨F', ⟨_, _, _, _, _, h4.set_ (6 + i * 65 + 64) (.bool false) (s' := { s2 with sl := upd s2.sl i (s2.lo i), wr := upd s2.wr i false }) ⟨h4.ok.cap, h4.ok.room, h4.ok.safe, h4.ok.sl, h4.ok.lo, h4.ok.fuse⟩ (h4.cells.set_wr hlt false) (fun _ _ => ⟨rfl, rfl⟩) ⟨rfl, rfl⟩⟩, Fr.setCell (p := ⟨g, 6 + i * 65 + 64, none⟩) hfr4 (.inl h.fg) _, fun _ h => .inl h⟩)
        have hi1 : (Try.prog.info? 37).map (·.size) = some (bs (s2.lo i)).length := by rw [bs_length, hlo]; kernel_rfl
        have HI1 := Lib.hid hi1
        have HI2 : Hid ((Try.prog.info? 37).map (·.size) = some (bs (s2.lo i)).toArray.size) := Lib.hid (by rw [List.size_toArray]; exact hi1)
        have HONE : Hid ((bs (s2.lo i)).toArray.all (·.oneCell') = true) := Lib.hid (all_oneCell_toArray (bs_one _))
        clear h hwr hfr hF' HCS hlo ok1 e32 k1 k2 k3 hc4 h4 hfr4 hi1
        generalize bs (s2.lo i) = lo at *
        go_wp2_with (first
          | refine wpList_load_mid rfl 37 (.tmp 19) rfl g (6 + i * 65 + 32) rfl lo _ HRG.out Try.underlying37 rfl HI1.out ?_
          | refine wpList_store_mid rfl 37 (.tmp 22) (.tmp 20) rfl g (6 + i * 65) lo.toArray rfl rfl HTH.out HI2.out HONE.out ?_)
        go_roundw
        case rel => exact ⟨i + 1, by omega, by go_num, by rw [HCS2.out]; exact HNX.out⟩
        case measure => simp [intOf]; omega
    · obtain rfl : i = 2 := by omega
      have HNX : Hid (Next w base F g (sySs s 2) wr) := Lib.hid ⟨F', ⟨_, _, _, _, _, h⟩, hfr, hF'⟩
      clear h hfr hF'
      go_wp2_with fail
      go_end0
      exact ⟨⟨_, rfl⟩, HNX.out⟩
/-- What SyncHead answers, and makes of a disk. -/
def shD (s : DS) : Nat × DS := if s.dead then (3, s) else after s (fun s => sySs s 2) (fun _ s => s)
set_option maxRecDepth 100000 in
set_option maxHeartbeats 1000000 in
theorem syncHead_any {w : World} (h : At w base F g s) :
    Calls Try.prog 20 #[.pointer (some ⟨g, 0, none⟩)] w fun e w' => e = .returned (.int .i64 ((shD s).1 : Nat)) ∧ Next w base F g (shD s).2 w' := by
  have hBx := (Below.refl w.heap.size w).alloc (Nat.le_refl _) (.cells #[.pointer (some ⟨g, 0, none⟩)] 38)
  have q1 := Blk.new_ w 38 #[.pointer (some ⟨g, 0, none⟩)] rfl
  have d1 := Blk.at_ q1 0 (v := .pointer (some ⟨g, 0, none⟩)) rfl
  have hA1 := h.below hBx
  have hFx : ¬ F w.heap.size := fun e => by have := (h.lt e).2; omega
  have hlx := q1.lt
  have HBX := Lib.hid hBx
  have HA0 := Lib.hid hA1
  have Q1 := Lib.hid q1
  clear h hA1 hBx q1
  go_enter Try.func20, Try.ntmps20
  go_wp2_with fail
  generalize w.alloc (.cells #[.pointer (some ⟨g, 0, none⟩)] 38) = w0 at *
  refine Calls.mono (why_any HA0.out) ?_
  rintro e w1 ⟨rfl, rfl⟩
  cases hd : s.dead
  rotate_left
  · have HR : Hid (shD s = (3, s)) := Lib.hid (by unfold shD; rw [if_pos hd])
    have HNX := Lib.hid (Next.trans (w := w) (s' := s) (Fr.of_below HBX.out F) (fun _ h => .inl h) (Next.refl HA0.out))
    simp only [if_true]
    clear hd
    go_wp2_with fail
    go_ret
    rw [HR.out]
    exact ⟨rfl, HNX.out⟩
  simp only [Bool.false_eq_true, if_false]
  have HR : Hid (shD s = after s (fun s => sySs s 2) (fun _ s => s)) := Lib.hid (by unfold shD; rw [if_neg (by rw [hd]; simp)])
  clear hd
  go_wp2_with fail
  refine Calls.mono (change_any HA0.out 44 42 #[.pointer (some ⟨w.heap.size, 0, none⟩)] #[] (fun s => sySs s 2) (fun _ s => s)
    (enters_of Try.func44 (by kernel_rfl) rfl) (enters_of Try.func42 (by kernel_rfl) rfl) (sySs_fuse s 2)
    (fun W o hW hf => by rw [← sySs_fused]; exact do_syncHead (s := fused s o) hW (Q1.out.fr hf hFx) hFx)
    (fun p _ => nothing_any HA0.out p)) ?_
  rintro e w6 ⟨rfl, hN⟩
  have HNX : Hid (Next w base F g (after s (fun s => sySs s 2) (fun _ s => s)).2 w6) := Lib.hid (Next.trans (s' := s) (Fr.of_below HBX.out F) (fun _ h => .inl h) hN)
  clear hN
  go_wp2_with fail
  go_ret
  rw [HR.out]
  exact ⟨rfl, HNX.out⟩
end
end Go.Proofs.Ytpohefpiidlnjaa.Dk
