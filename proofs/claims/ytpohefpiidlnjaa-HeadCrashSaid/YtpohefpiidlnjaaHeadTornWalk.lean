/-
  The walk of HeadTorn.
-/
import Derived.Test.YtpohefpiidlnjaaHeadZeros
import Derived.Test.YtpohefpiidlnjaaHeadBackWalk
namespace Go.Proofs.Ytpohefpiidlnjaa.HdW
set_option linter.unusedVariables false
open Go Go.RowKit Go.Shelf Go.Proofs Go.Proofs.Ytpohefpiidlnjaa Go.Proofs.Ytpohefpiidlnjaa.Wd Go.Proofs.Ytpohefpiidlnjaa.Dk Go.Proofs.Ytpohefpiidlnjaa.Hd

/-- An own row that is under way, over a world that stays. -/
structure St (w3 U : World) (F : Nat → Prop) (v : Value) (l : List UInt8) : Prop where
  sv : SegV U F v l
  lo : ∀ k, F k → w3.heap.size ≤ k ∧ k < U.heap.size
  hb : Below w3.heap.size w3 U
section
variable {w3 U : World} {F : Nat → Prop} {v : Value} {l : List UInt8}
theorem St.empty (hb : Below w3.heap.size w3 U) : ∃ F, St w3 (U.alloc (.cells #[] 5)) F (.slice (some ⟨U.heap.size, 0, none⟩) 0 0) [] ∧ ∀ g, g < U.heap.size → ¬ F g :=
  ⟨fun j => j = U.heap.size, ⟨.inr ⟨U.heap.size, 0, #[], rfl, rfl, Blk.new_ U _ _ rfl, Nat.le_refl _, Nat.le_refl _, by simp [maxLen], rfl⟩, fun k e => ⟨e ▸ hb.size, by subst e; simp⟩, hb.alloc hb.size _⟩, fun g hg e => by omega⟩
theorem St.step {v' : Value} {U' : World} {l' : List UInt8} (h : St w3 U F v l) (sv : SegV U' (fun k => F k ∨ U.heap.size ≤ k) v' l') (hf : Fr F U U') :
    ∃ F', St w3 U' F' v' l' ∧ (∀ g, g < U.heap.size → ¬ F g → ¬ F' g) ∧ ∀ g t cs, Blk U g t cs → ¬ F g → Blk U' g t cs :=
  ⟨fun k => (F k ∨ U.heap.size ≤ k) ∧ k < U'.heap.size, ⟨sv.more fun k hk h => ⟨h, hk⟩, fun k hk => ⟨hk.1.elim (fun e => (h.lo k e).1) (fun e => Nat.le_trans h.hb.size e), hk.2⟩, h.hb.trans (hf.below h.hb.size fun k hk => (h.lo k hk).1)⟩, fun g hg hn e => e.1.elim hn (fun e => by omega), fun g t cs q hn => q.fr hf hn⟩
theorem St.app (h : St w3 U F v l) {B : Nat} {A : Option Addr} {m c : Nat} {l2 : List UInt8} (hm : m = l2.length) (hr : Bytes U B A l2) (hb : l.length + m ≤ 1000000000000) (ty : TypeId) :
    ∃ v' U' F', (Builtin.append_ #[25, 25] ty #[v, .slice A m c]).run Try.prog U = .ok v' U' ∧ St w3 U' F' v' (l ++ l2) ∧ (∀ g, g < U.heap.size → ¬ F g → ¬ F' g) ∧ ∀ g t cs, Blk U g t cs → ¬ F g → Blk U' g t cs := by
  obtain ⟨v', U', hrun, sv, hf⟩ := run_append_seg h.sv (c := c) hm hr hb ty
  obtain ⟨F', h1, h2, h3⟩ := h.step sv hf
  exact ⟨v', U', F', hrun, h1, h2, h3⟩
theorem St.zeros (h : St w3 U F v l) (m : Nat) (hb : l.length + m ≤ 1000000000000) (ty : TypeId) :
    ∃ v' U' F', (Builtin.append_ #[25, 3] ty #[v, .int .i64 (m : Nat)]).run Try.prog U = .ok v' U' ∧ St w3 U' F' v' (l ++ List.replicate m 0) ∧ (∀ g, g < U.heap.size → ¬ F g → ¬ F' g) ∧ ∀ g t cs, Blk U g t cs → ¬ F g → Blk U' g t cs := by
  obtain ⟨v', U', hrun, sv, hf⟩ := zeros_seg h.sv m hb ty
  obtain ⟨F', h1, h2, h3⟩ := h.step sv hf
  exact ⟨v', U', F', hrun, h1, h2, h3⟩
theorem St.alloc (h : St w3 U F v l) (o : Obj) : St w3 (U.alloc o) F v l ∧ ¬ F U.heap.size :=
  ⟨⟨h.sv.below ((Below.refl _ U).alloc (Nat.le_refl _) o), fun k hk => ⟨(h.lo k hk).1, by have := (h.lo k hk).2; simp; omega⟩, h.hb.alloc h.hb.size o⟩, fun e => by have := (h.lo _ e).2; omega⟩
end
theorem torn0 {b : H} (wb : Wf b) {k : Nat} (hk : k ≤ 32) {x : H} (hx : Hd.read ((Hd.bytes b).take k ++ List.replicate (32 - k) 0) = some x) : x = b := by
  obtain ⟨hr, e, wx⟩ := read_some hx
  have l8 : ∀ h : H, (Hd.bytes h).take 8 = le8 h.serial := fun h => rfl
  have l24 : ∀ h : H, (Hd.bytes h).drop 24 = le8 h.serial := fun h => rfl
  by_cases h24 : k ≤ 24
  · exfalso
    have e1 : (Hd.bytes x).drop 24 = List.replicate 8 0 := by
      rw [← e, List.drop_append, List.drop_eq_nil_of_le (by rw [List.length_take, bytes_length]; omega), List.nil_append, List.drop_replicate, List.length_take, bytes_length]
      congr 1; omega
    have e2 : le8 0 = List.replicate 8 0 := rfl
    rw [l24, ← e2] at e1
    have s1 := le8_inj wx.serial (by decide) e1
    simp [right, s1] at hr
  · have e1 : (Hd.bytes x).take 8 = (Hd.bytes b).take 8 := by
      rw [← e, List.take_append_of_le_length (by rw [List.length_take, bytes_length]; omega), List.take_take, Nat.min_eq_left (by omega)]
    rw [l8, l8] at e1
    have s1 := le8_inj wx.serial wb.serial e1
    have e2 : (Hd.bytes x).take 24 = (Hd.bytes b).take 24 := by
      rw [← e, List.take_append_of_le_length (by rw [List.length_take, bytes_length]; omega), List.take_take, Nat.min_eq_left (by omega)]
    refine bytes_inj wx wb ?_
    rw [← List.take_append_drop 24 (Hd.bytes x), ← List.take_append_drop 24 (Hd.bytes b), e2, l24, l24, s1]
theorem torn_one {a b : H} (wa : Wf a) (wb : Wf b) (hne : a.serial ≠ b.serial) {k : Nat} (hk : k ≤ 32) (ra : right a = true) (rb : right b = true) {r : H × Bool} (hx : readR ((Hd.bytes b).take k ++ (Hd.bytes a).drop k) = r) :
    (r.2 = false ∧ 0 < k ∧ k < 32) ∨ (r.2 = true ∧ r.1 = a ∧ k < 32) ∨ (r.2 = true ∧ r.1 = b ∧ 0 < k) := by
  by_cases h0 : k = 0
  · subst h0
    right; left
    rw [List.take_zero, List.nil_append, List.drop_zero, readR_bytes wa ra] at hx
    subst hx
    exact ⟨rfl, rfl, by decide⟩
  · by_cases h32 : k = 32
    · subst h32
      right; right
      rw [List.take_of_length_le (by rw [bytes_length]; exact Nat.le_refl _), List.drop_eq_nil_of_le (by rw [bytes_length]; exact Nat.le_refl _), List.append_nil, readR_bytes wb rb] at hx
      subst hx
      exact ⟨rfl, rfl, by decide⟩
    · unfold readR at hx
      cases hr : Hd.read ((Hd.bytes b).take k ++ (Hd.bytes a).drop k) with
      | none => rw [hr] at hx; subst hx; exact .inl ⟨rfl, by omega, by omega⟩
      | some x =>
        rw [hr] at hx
        subst hx
        rcases torn wa wb hne hk hr with h | h
        · exact .inr (.inl ⟨rfl, h, by omega⟩)
        · exact .inr (.inr ⟨rfl, h, by omega⟩)
theorem torn_two {b : H} (wb : Wf b) {k : Nat} (hk : k ≤ 32) (rb : right b = true) {r : H × Bool} (hx : readR ((Hd.bytes b).take k ++ List.replicate (32 - k) 0) = r) :
    (r.2 = false ∧ k < 32) ∨ (r.2 = true ∧ r.1 = b ∧ 0 < k) := by
  by_cases h32 : k = 32
  · subst h32
    right
    rw [List.take_of_length_le (by rw [bytes_length]; exact Nat.le_refl _), show List.replicate (32 - 32) (0 : UInt8) = [] from rfl, List.append_nil, readR_bytes wb rb] at hx
    subst hx
    exact ⟨rfl, rfl, by decide⟩
  · unfold readR at hx
    cases hr : Hd.read ((Hd.bytes b).take k ++ List.replicate (32 - k) 0) with
    | none => rw [hr] at hx; subst hx; exact .inl ⟨rfl, by omega⟩
    | some x =>
      rw [hr] at hx
      subst hx
      have h := torn0 wb hk hr
      refine .inr ⟨rfl, h, ?_⟩
      by_cases h0 : k = 0
      · subst h0
        rw [List.take_zero, List.nil_append] at hr
        have e : Hd.read (List.replicate (32 - 0) 0) = none := by decide +kernel
        rw [e] at hr
        cases hr
      · omega
set_option maxRecDepth 100000 in
set_option maxHeartbeats 4000000 in
theorem torn_walk (a0 b0 c0 a1 b1 c1 kp : Nat) (wg : Wf ⟨a0, b0, c0⟩) (wh : Wf ⟨a1, b1, c1⟩) (hkp : kp < 256) (w : World) :
    Calls Try.prog 4 #[.agg #[.int .u64 (a0 : Nat), .int .u64 (b0 : Nat), .int .u8 (c0 : Nat)], .agg #[.int .u64 (a1 : Nat), .int .u64 (b1 : Nat), .int .u8 (c1 : Nat)], .int .u8 kp] w fun e w' => e = .returned (.bool true) ∧ Below w.heap.size w w' := by
  have p3 := (Blk.new_ w 24 #[.int .u64 (a0 : Nat), .int .u64 (b0 : Nat), .int .u8 (c0 : Nat)] rfl).alloc (.cells #[.int .u64 (a1 : Nat), .int .u64 (b1 : Nat), .int .u8 (c1 : Nat)] 24)
  have p4 := Blk.new_ (w.alloc (.cells #[.int .u64 (a0 : Nat), .int .u64 (b0 : Nat), .int .u8 (c0 : Nat)] 24)) 24 #[.int .u64 (a1 : Nat), .int .u64 (b1 : Nat), .int .u8 (c1 : Nat)] (n := w.heap.size + 1) (by simp)
  have hB := ((Below.refl w.heap.size w).alloc (Nat.le_refl _) (.cells #[.int .u64 (a0 : Nat), .int .u64 (b0 : Nat), .int .u8 (c0 : Nat)] 24)).alloc (by simp) (.cells #[.int .u64 (a1 : Nat), .int .u64 (b1 : Nat), .int .u8 (c1 : Nat)] 24)
  obtain ⟨k, hk⟩ : ∃ k, k = kp % 33 := ⟨_, rfl⟩
  have hk33 : k ≤ 32 := by omega
  have T1 : Hid ((kp : Int).tmod 33 = (k : Int)) := Lib.hid (by rw [Int.tmod_eq_emod_of_nonneg (Int.natCast_nonneg _)]; omega)
  have T2 : Hid (IntKind.i64.wrap (kp : Int) = (kp : Int)) := Lib.hid (IntWalk.i64_in _ (by omega))
  have T3 : Hid (IntKind.i64.wrap (k : Int) = (k : Int)) := Lib.hid (IntWalk.i64_in _ (by omega))
  clear hk
  go_enter Try.func4, Try.ntmps4
  go_upto_region 1 with fail
  generalize (w.alloc (.cells #[.int .u64 (a0 : Nat), .int .u64 (b0 : Nat), .int .u8 (c0 : Nat)] 24)).alloc (.cells #[.int .u64 (a1 : Nat), .int .u64 (b1 : Nat), .int .u8 (c1 : Nat)] 24) = w1 at *
  have f0 := Blk.at_ p3 0 (v := .int .u64 (a0 : Nat)) rfl
  have f1 := Blk.at_ p3 1 (v := .int .u64 (b0 : Nat)) rfl
  have f2 := Blk.at_ p3 2 (v := .int .u8 (c0 : Nat)) rfl
  have hBy := bytes_any a0 b0 c0 wg w1
  go_wp2_with fail
  refine Calls.mono hBy ?_
  rintro e w2 ⟨A0, cx, rfl, hlx, hmx, hJx, hb, -⟩
  obtain ⟨x, hx⟩ : ∃ x, x = (bytesR ⟨a0, b0, c0⟩).1 := ⟨_, rfl⟩
  rw [← hx] at hlx hJx ⊢
  have HX := Lib.hid hx
  clear hx
  obtain ⟨cdx, hcdx⟩ : ∃ x, x = (bytesR ⟨a0, b0, c0⟩).2 := ⟨_, rfl⟩
  rw [← hcdx]
  rw [bytesR_code] at hcdx
  have HCX := Lib.hid hcdx
  clear hcdx
  obtain ⟨nx, hnx⟩ : ∃ k, k = x.length := ⟨_, rfl⟩
  rw [← hnx] at hlx ⊢
  have HNX := Lib.hid hnx
  clear hnx f0 f1 f2 hBy
  have p3' := p3.below hb p3.lt
  have p4' := p4.below hb p4.lt
  have hB' := hB.trans (hb.mono hB.size)
  clear p3 p4 hB hb
  have p3 := p3'
  have p4 := p4'
  have hB := hB'
  clear p3' p4' hB'
  have f0 := Blk.at_ p4 0 (v := .int .u64 (a1 : Nat)) rfl
  have f1 := Blk.at_ p4 1 (v := .int .u64 (b1 : Nat)) rfl
  have f2 := Blk.at_ p4 2 (v := .int .u8 (c1 : Nat)) rfl
  have hBy := bytes_any a1 b1 c1 wh w2
  go_wp2_with fail
  refine Calls.mono hBy ?_
  rintro e w3 ⟨A1, cy, rfl, hly, hmy, hJy, hb, -⟩
  obtain ⟨y, hy⟩ : ∃ x, x = (bytesR ⟨a1, b1, c1⟩).1 := ⟨_, rfl⟩
  rw [← hy] at hly hJy ⊢
  have HY := Lib.hid hy
  clear hy
  obtain ⟨cdy, hcdy⟩ : ∃ x, x = (bytesR ⟨a1, b1, c1⟩).2 := ⟨_, rfl⟩
  rw [← hcdy]
  rw [bytesR_code] at hcdy
  have HCY := Lib.hid hcdy
  clear hcdy
  obtain ⟨m, hm⟩ : ∃ k, k = y.length := ⟨_, rfl⟩
  rw [← hm] at hly ⊢
  have HM := Lib.hid hm
  clear hm f0 f1 f2 hBy
  have p3' := p3.below hb p3.lt
  have p4' := p4.below hb p4.lt
  have hJx' := hJx.grow hb
  have hB' := hB.trans (hb.mono hB.size)
  clear p3 p4 hJx hB hb
  have p3 := p3'
  have p4 := p4'
  have hJx := hJx'
  have hB := hB'
  clear p3' p4' hJx' hB'
  go_upto_region 3 with fail
  have f0 := Blk.at_ p3 0 (v := .int .u64 (a0 : Nat)) rfl
  have f1 := Blk.at_ p4 0 (v := .int .u64 (a1 : Nat)) rfl
  by_cases hgo : right ⟨a0, b0, c0⟩ = true ∧ right ⟨a1, b1, c1⟩ = true ∧ a0 ≠ a1
  rotate_left
  · cases hrg : right ⟨a0, b0, c0⟩
    · obtain rfl : cdx = 50 := by rw [HCX.out, hrg]; rfl
      clear HCX HCY HX HY HNX HM hJx hJy hgo hrg p3 p4
      go_wp2_with fail
      refine Calls.mono (awake_any _) ?_
      rintro e wz ⟨rfl, hb⟩
      have hB2 := hB.trans (hb.mono hB.size)
      go_wp2_with fail
      go_ret
      exact ⟨rfl, hB2⟩
    · obtain rfl : cdx = 0 := by rw [HCX.out, hrg]; rfl
      cases hrh : right ⟨a1, b1, c1⟩
      · obtain rfl : cdy = 50 := by rw [HCY.out, hrh]; rfl
        clear HCX HCY HX HY HNX HM hJx hJy hgo hrg hrh p3 p4
        go_wp2_with fail
        refine Calls.mono (awake_any _) ?_
        rintro e wz ⟨rfl, hb⟩
        have hB2 := hB.trans (hb.mono hB.size)
        go_wp2_with fail
        go_ret
        exact ⟨rfl, hB2⟩
      · obtain rfl : cdy = 0 := by rw [HCY.out, hrh]; rfl
        have hee : a0 = a1 := by
          by_cases he : a0 = a1
          · exact he
          · exact absurd ⟨hrg, hrh, he⟩ hgo
        subst hee
        clear HCX HCY HX HY HNX HM hJx hJy hgo hrg hrh p3 p4
        go_wp2_with fail
        refine Calls.mono (awake_any _) ?_
        rintro e wz ⟨rfl, hb⟩
        have hB2 := hB.trans (hb.mono hB.size)
        go_wp2_with fail
        go_ret
        exact ⟨rfl, hB2⟩
  · obtain ⟨hrg, hrh, hne⟩ := hgo
    obtain rfl : cdx = 0 := by rw [HCX.out, hrg]; rfl
    obtain rfl : cdy = 0 := by rw [HCY.out, hrh]; rfl
    have hxe : x = Hd.bytes ⟨a0, b0, c0⟩ := by rw [HX.out, bytesR_right hrg]
    have hye : y = Hd.bytes ⟨a1, b1, c1⟩ := by rw [HY.out, bytesR_right hrh]
    obtain rfl : nx = 32 := by rw [HNX.out, hxe]; rfl
    obtain rfl : m = 32 := by rw [HM.out, hye]; rfl
    have HLX : Hid (x.length = 32) := Lib.hid HNX.out.symm
    have HLY : Hid (y.length = 32) := Lib.hid HM.out.symm
    have HXE := Lib.hid hxe
    have HYE := Lib.hid hye
    have HRG := Lib.hid hrg
    have HRH := Lib.hid hrh
    have une : ¬ (a0 : Int) = (a1 : Int) := by omega
    have HNE := Lib.hid hne
    clear HCX HCY HX HY HNX HM hxe hye hrg hrh hne
    have t1 := T1.out
    have t2 := T2.out
    have t3 := T3.out
    clear T1 T2 T3
    go_upto_region 8 with fail
    clear t1 t2 f0 f1
    obtain ⟨rx, ox, rfl, hrx, -⟩ := hJx.at_ (j := 0) (by rw [HLX.out]; decide)
    obtain ⟨ry, oy, rfl, hry, -⟩ := hJy.at_ (j := 0) (by rw [HLY.out]; decide)
    have i1 : (0 : Int) ≤ (k : Int) := by omega
    have i2 : (k : Int) ≤ (cy : Int) := by omega
    have i3 : (k : Int) ≤ 32 := by omega
    have i4 : (32 : Int) ≤ (cx : Int) := by omega
    have HKX : Hid (32 - k = (x.drop k).length) := Lib.hid (by rw [List.length_drop, HLX.out])
    have HKY : Hid (k = (y.take k).length) := Lib.hid (by rw [List.length_take, HLY.out]; omega)
    have HL1 : Hid (([] ++ y.take k).length = k) := Lib.hid (by rw [List.nil_append]; exact HKY.out.symm)
    have HBX : Hid (∀ U, Below w3.heap.size w3 U → Bytes U w3.heap.size (if cx = k then some ⟨rx, ox, none⟩ else some ⟨rx, ox + k, none⟩) (x.drop k)) := Lib.hid fun U hU => by
      by_cases hck : cx = k
      · have he : x.drop k = [] := List.drop_eq_nil_of_le (by rw [HLX.out]; omega)
        rw [he]
        exact Row.nil
      · rw [if_neg hck]
        have := Bytes.part (Row.below hJx hU) k 32
        rwa [List.take_of_length_le (by rw [HLX.out]; exact Nat.le_refl _)] at this
    have HBY : Hid (∀ U, Below w3.heap.size w3 U → Bytes U w3.heap.size (some ⟨ry, oy, none⟩) (y.take k)) := Lib.hid fun U hU => Bytes.head (Row.below hJy hU) k
    obtain ⟨⟨⟨r0, r1, r2⟩, ok⟩, hz⟩ : ∃ r, readR (y.take k ++ x.drop k) = r := ⟨_, rfl⟩
    have HZ := Lib.hid hz
    clear hz hJx hJy
    go_cut [12, 13] (fun v u wx => ∃ g, v = .pointer (some ⟨g, 0, none⟩) ∧ u = .bool ok ∧ Blk wx g 24 #[.int .u64 (r0 : Nat), .int .u64 (r1 : Nat), .int .u8 (r2 : Nat)] ∧ Below w3.heap.size w3 wx)
    case first =>
      clear p3 p4 hB une HNE HXE HYE HRG HRH
      refine wp_region_heldG [] (fun _ _ => True) (by kernel_rfl) ?_
      change wpAnyG _ _ _ _ _ _ 16 _ _ (World.drew _)
      have hb := (Below.refl w3.heap.size w3).drew
      generalize w3.drew = U at *
      refine g_take (i := 1) rfl rfl (by kernel_rfl) (by kernel_rfl) (by kernel_rfl) (by kernel_rfl) (by kernel_rfl) (fun _ _ _ h => h) trivial (fun L W hL hW => by go_simp; rfl) ?_
      refine g_take (i := 2) rfl rfl (by kernel_rfl) (by kernel_rfl) (by kernel_rfl) (by kernel_rfl) (by kernel_rfl) (fun _ _ _ h => h) trivial (fun L W hL hW => by go_simp; rfl) ?_
      refine g_take (i := 3) rfl rfl (by kernel_rfl) (by kernel_rfl) (by kernel_rfl) (by kernel_rfl) (by kernel_rfl) (fun _ _ _ h => h) trivial (fun L W hL hW => by go_simp; rfl) ?_
      refine g_take (i := 5) rfl rfl (by kernel_rfl) (by kernel_rfl) (by kernel_rfl) (by kernel_rfl) (by kernel_rfl) (fun _ _ _ h => h) trivial (fun L W hL hW => by go_simp; rfl) ?_
      refine g_take (i := 6) rfl rfl (by kernel_rfl) (by kernel_rfl) (by kernel_rfl) (by kernel_rfl) (by kernel_rfl) (fun _ _ _ h => h) trivial (fun L W hL hW => by go_simp; rfl) ?_
      refine g_take (i := 7) rfl rfl (by kernel_rfl) (by kernel_rfl) (by kernel_rfl) (by kernel_rfl) (by kernel_rfl) (fun _ _ _ h => h) trivial (fun L W hL hW => by go_simp; rfl) ?_
      generalize (if cx = k then some (⟨rx, ox, none⟩ : Addr) else some ⟨rx, ox + k, none⟩) = Ax at *
      refine g_two (i := 0) (j := 13) (by kernel_rfl) rfl rfl rfl rfl (fun K hK => ?_) (fun K hK => ?_)
      · obtain ⟨F1, s3, nfs3⟩ := St.empty hb
        have hbs3 := s3.hb
        go_simp
        refine hK _ _ trivial ?_
        clear hK K
        generalize U.alloc (.cells #[] 5) = U2 at *
        clear hb nfs3
        refine g_two (i := 4) (j := 13) (by kernel_rfl) rfl rfl rfl rfl (fun K hK => ?_) (fun K hK => ?_)
        · obtain ⟨v7, V5, F6, hrun, s4, nf, hq⟩ := s3.app (c := cy) HKY.out (HBY.out _ hbs3) (by simp; omega) 25
          refine Lib.wp_append_run _ (.tmp 52) (.tmp 55) 25 25 rfl _ _ rfl rfl v7 V5 hrun ?_
          refine hK _ _ trivial ?_
          clear hK K
          have hbs4 := s4.hb
          clear s3 hrun nf hq hbs3
          refine g_two (i := 8) (j := 13) (by kernel_rfl) rfl rfl rfl rfl (fun K hK => ?_) (fun K hK => ?_)
          · obtain ⟨v11, V9, F10, hrun, s8, nf, hq⟩ := s4.app (c := cx - k) HKX.out (HBX.out _ hbs4) (by rw [HL1.out]; omega) 25
            refine Lib.wp_append_run _ (.tmp 56) (.tmp 59) 25 25 rfl _ _ rfl rfl v11 V9 hrun ?_
            refine hK _ _ trivial ?_
            clear hK K
            have hbs8 := s8.hb
            clear s4 hrun nf hq hbs4
            refine g_two (i := 9) (j := 13) (by kernel_rfl) rfl rfl rfl rfl (fun K hK => ?_) (fun K hK => ?_)
            · obtain ⟨As12, cs12, hvs12, hc, hm, hI⟩ := s8.sv.form
              simp only [List.nil_append] at hvs12 hc hI
              obtain ⟨ln, hln⟩ : ∃ n, n = (y.take k ++ x.drop k).length := ⟨_, rfl⟩
              rw [← hln] at hvs12 hc
              have hRd := read_any As12 cs12 _ ln hln hc hm _ hI
              clear hln hI
              rw [HZ.out] at hRd
              simp only [hv] at hRd
              rw [hvs12]
              go_simp
              refine Calls.mono hRd ?_
              rintro e V13 ⟨rfl, hb3⟩
              have hbs12 := hbs8.trans (hb3.mono hbs8.size)
              refine hK _ _ trivial ?_
              clear hK K
              clear s8 hc hm hRd hb3 hbs8
              refine g_take (i := 10) rfl rfl (by kernel_rfl) (by kernel_rfl) (by kernel_rfl) (by kernel_rfl) (by kernel_rfl) (fun _ _ _ h => h) trivial (fun L W hL hW => by go_simp; rfl) ?_
              refine g_take (i := 11) rfl rfl (by kernel_rfl) (by kernel_rfl) (by kernel_rfl) (by kernel_rfl) (by kernel_rfl) (fun _ _ _ h => h) trivial (fun L W hL hW => by go_simp; rfl) ?_
              refine g_take (i := 12) rfl rfl (by kernel_rfl) (by kernel_rfl) (by kernel_rfl) (by kernel_rfl) (by kernel_rfl) (fun _ _ _ h => h) trivial (fun L W hL hW => by go_simp; rfl) ?_
              refine g_one (i := 13) rfl rfl (by kernel_rfl) fun K hK => ?_
              have qs14 := Blk.new_ V13 24 #[.int .u64 0, .int .u64 0, .int .u8 0] rfl
              have hgs14 := hbs12.size
              have hbs14 := hbs12.alloc hgs14 (.cells #[.int .u64 0, .int .u64 0, .int .u8 0] 24)
              go_simp
              refine hK _ _ trivial ?_
              clear hK K
              generalize V13.alloc (.cells #[.int .u64 0, .int .u64 0, .int .u8 0] 24) = U15 at *
              clear hbs12
              refine g_one (i := 14) rfl rfl (by kernel_rfl) fun K hK => ?_
              have z0 := Blk.at_ qs14 0 (v := .int .u64 0) rfl
              have z1 := Blk.at_ qs14 1 (v := .int .u64 0) rfl
              have z2 := Blk.at_ qs14 2 (v := .int .u8 0) rfl
              have zf := qs14.frozen
              go_simp
              refine hK _ _ trivial ?_
              clear hK K z0 z1 z2 zf
              refine g_take (i := 15) rfl rfl (by kernel_rfl) (by kernel_rfl) (by kernel_rfl) (by kernel_rfl) (by kernel_rfl) (fun _ _ _ h => h) trivial (fun L W hL hW => by go_simp; rfl) ?_
              refine wpAnyG_done (by kernel_rfl) ?_ _
              go_simp
              go_wp2_with fail
              go_meet
              exact ⟨_, rfl, rfl, ((qs14.set_ 0 _).set_ 1 _).set_ 2 _, ((hbs14.setCell (p := ⟨_, 0, none⟩) hgs14 _).setCell (p := ⟨_, 1, none⟩) hgs14 _).setCell (p := ⟨_, 2, none⟩) hgs14 _⟩
            · have qs16 := Blk.new_ V9 24 #[.int .u64 0, .int .u64 0, .int .u8 0] rfl
              have hgs16 := hbs8.size
              have hbs16 := hbs8.alloc hgs16 (.cells #[.int .u64 0, .int .u64 0, .int .u8 0] 24)
              obtain ⟨s16, ngs16⟩ := s8.alloc (.cells #[.int .u64 0, .int .u64 0, .int .u8 0] 24)
              go_simp
              refine hK _ _ trivial ?_
              clear hK K
              generalize V9.alloc (.cells #[.int .u64 0, .int .u64 0, .int .u8 0] 24) = U17 at *
              clear hbs8 s8
              refine g_one (i := 9) rfl rfl (by kernel_rfl) fun K hK => ?_
              obtain ⟨As18, cs18, hvs18, hc, hm, hI⟩ := s16.sv.form
              simp only [List.nil_append] at hvs18 hc hI
              obtain ⟨ln, hln⟩ : ∃ n, n = (y.take k ++ x.drop k).length := ⟨_, rfl⟩
              rw [← hln] at hvs18 hc
              have hRd := read_any As18 cs18 _ ln hln hc hm _ hI
              clear hln hI
              rw [HZ.out] at hRd
              simp only [hv] at hRd
              rw [hvs18]
              go_simp
              refine Calls.mono hRd ?_
              rintro e V19 ⟨rfl, hb3⟩
              have hbs18 := hbs16.trans (hb3.mono hbs16.size)
              have qs18 := qs16.below hb3 qs16.lt
              refine hK _ _ trivial ?_
              clear hK K
              clear s16 hc hm hRd hb3 hbs16 qs16 ngs16
              refine g_take (i := 10) rfl rfl (by kernel_rfl) (by kernel_rfl) (by kernel_rfl) (by kernel_rfl) (by kernel_rfl) (fun _ _ _ h => h) trivial (fun L W hL hW => by go_simp; rfl) ?_
              refine g_take (i := 11) rfl rfl (by kernel_rfl) (by kernel_rfl) (by kernel_rfl) (by kernel_rfl) (by kernel_rfl) (fun _ _ _ h => h) trivial (fun L W hL hW => by go_simp; rfl) ?_
              refine g_take (i := 12) rfl rfl (by kernel_rfl) (by kernel_rfl) (by kernel_rfl) (by kernel_rfl) (by kernel_rfl) (fun _ _ _ h => h) trivial (fun L W hL hW => by go_simp; rfl) ?_
              refine g_one (i := 14) rfl rfl (by kernel_rfl) fun K hK => ?_
              have z0 := Blk.at_ qs18 0 (v := .int .u64 0) rfl
              have z1 := Blk.at_ qs18 1 (v := .int .u64 0) rfl
              have z2 := Blk.at_ qs18 2 (v := .int .u8 0) rfl
              have zf := qs18.frozen
              go_simp
              refine hK _ _ trivial ?_
              clear hK K z0 z1 z2 zf
              refine g_take (i := 15) rfl rfl (by kernel_rfl) (by kernel_rfl) (by kernel_rfl) (by kernel_rfl) (by kernel_rfl) (fun _ _ _ h => h) trivial (fun L W hL hW => by go_simp; rfl) ?_
              refine wpAnyG_done (by kernel_rfl) ?_ _
              go_simp
              go_wp2_with fail
              go_meet
              exact ⟨_, rfl, rfl, ((qs18.set_ 0 _).set_ 1 _).set_ 2 _, ((hbs18.setCell (p := ⟨_, 0, none⟩) hgs16 _).setCell (p := ⟨_, 1, none⟩) hgs16 _).setCell (p := ⟨_, 2, none⟩) hgs16 _⟩
          · have qs20 := Blk.new_ V5 24 #[.int .u64 0, .int .u64 0, .int .u8 0] rfl
            have hgs20 := hbs4.size
            have hbs20 := hbs4.alloc hgs20 (.cells #[.int .u64 0, .int .u64 0, .int .u8 0] 24)
            obtain ⟨s20, ngs20⟩ := s4.alloc (.cells #[.int .u64 0, .int .u64 0, .int .u8 0] 24)
            go_simp
            refine hK _ _ trivial ?_
            clear hK K
            generalize V5.alloc (.cells #[.int .u64 0, .int .u64 0, .int .u8 0] 24) = U21 at *
            clear hbs4 s4
            refine g_one (i := 8) rfl rfl (by kernel_rfl) fun K hK => ?_
            obtain ⟨v25, V23, F24, hrun, s22, nf, hq⟩ := s20.app (c := cx - k) HKX.out (HBX.out _ hbs20) (by rw [HL1.out]; omega) 25
            refine Lib.wp_append_run _ (.tmp 56) (.tmp 59) 25 25 rfl _ _ rfl rfl v25 V23 hrun ?_
            have qs22 := hq _ _ _ qs20 ngs20
            have ngs22 := nf _ qs20.lt ngs20
            refine hK _ _ trivial ?_
            clear hK K
            have hbs22 := s22.hb
            clear s20 hrun nf hq hbs20 qs20 ngs20
            refine g_one (i := 9) rfl rfl (by kernel_rfl) fun K hK => ?_
            obtain ⟨As26, cs26, hvs26, hc, hm, hI⟩ := s22.sv.form
            simp only [List.nil_append] at hvs26 hc hI
            obtain ⟨ln, hln⟩ : ∃ n, n = (y.take k ++ x.drop k).length := ⟨_, rfl⟩
            rw [← hln] at hvs26 hc
            have hRd := read_any As26 cs26 _ ln hln hc hm _ hI
            clear hln hI
            rw [HZ.out] at hRd
            simp only [hv] at hRd
            rw [hvs26]
            go_simp
            refine Calls.mono hRd ?_
            rintro e V27 ⟨rfl, hb3⟩
            have hbs26 := hbs22.trans (hb3.mono hbs22.size)
            have qs26 := qs22.below hb3 qs22.lt
            refine hK _ _ trivial ?_
            clear hK K
            clear s22 hc hm hRd hb3 hbs22 qs22 ngs22
            refine g_take (i := 10) rfl rfl (by kernel_rfl) (by kernel_rfl) (by kernel_rfl) (by kernel_rfl) (by kernel_rfl) (fun _ _ _ h => h) trivial (fun L W hL hW => by go_simp; rfl) ?_
            refine g_take (i := 11) rfl rfl (by kernel_rfl) (by kernel_rfl) (by kernel_rfl) (by kernel_rfl) (by kernel_rfl) (fun _ _ _ h => h) trivial (fun L W hL hW => by go_simp; rfl) ?_
            refine g_take (i := 12) rfl rfl (by kernel_rfl) (by kernel_rfl) (by kernel_rfl) (by kernel_rfl) (by kernel_rfl) (fun _ _ _ h => h) trivial (fun L W hL hW => by go_simp; rfl) ?_
            refine g_one (i := 14) rfl rfl (by kernel_rfl) fun K hK => ?_
            have z0 := Blk.at_ qs26 0 (v := .int .u64 0) rfl
            have z1 := Blk.at_ qs26 1 (v := .int .u64 0) rfl
            have z2 := Blk.at_ qs26 2 (v := .int .u8 0) rfl
            have zf := qs26.frozen
            go_simp
            refine hK _ _ trivial ?_
            clear hK K z0 z1 z2 zf
            refine g_take (i := 15) rfl rfl (by kernel_rfl) (by kernel_rfl) (by kernel_rfl) (by kernel_rfl) (by kernel_rfl) (fun _ _ _ h => h) trivial (fun L W hL hW => by go_simp; rfl) ?_
            refine wpAnyG_done (by kernel_rfl) ?_ _
            go_simp
            go_wp2_with fail
            go_meet
            exact ⟨_, rfl, rfl, ((qs26.set_ 0 _).set_ 1 _).set_ 2 _, ((hbs26.setCell (p := ⟨_, 0, none⟩) hgs20 _).setCell (p := ⟨_, 1, none⟩) hgs20 _).setCell (p := ⟨_, 2, none⟩) hgs20 _⟩
        · have qs28 := Blk.new_ U2 24 #[.int .u64 0, .int .u64 0, .int .u8 0] rfl
          have hgs28 := hbs3.size
          have hbs28 := hbs3.alloc hgs28 (.cells #[.int .u64 0, .int .u64 0, .int .u8 0] 24)
          obtain ⟨s28, ngs28⟩ := s3.alloc (.cells #[.int .u64 0, .int .u64 0, .int .u8 0] 24)
          go_simp
          refine hK _ _ trivial ?_
          clear hK K
          generalize U2.alloc (.cells #[.int .u64 0, .int .u64 0, .int .u8 0] 24) = U29 at *
          clear hbs3 s3
          refine g_one (i := 4) rfl rfl (by kernel_rfl) fun K hK => ?_
          obtain ⟨v33, V31, F32, hrun, s30, nf, hq⟩ := s28.app (c := cy) HKY.out (HBY.out _ hbs28) (by simp; omega) 25
          refine Lib.wp_append_run _ (.tmp 52) (.tmp 55) 25 25 rfl _ _ rfl rfl v33 V31 hrun ?_
          have qs30 := hq _ _ _ qs28 ngs28
          have ngs30 := nf _ qs28.lt ngs28
          refine hK _ _ trivial ?_
          clear hK K
          have hbs30 := s30.hb
          clear s28 hrun nf hq hbs28 qs28 ngs28
          refine g_one (i := 8) rfl rfl (by kernel_rfl) fun K hK => ?_
          obtain ⟨v37, V35, F36, hrun, s34, nf, hq⟩ := s30.app (c := cx - k) HKX.out (HBX.out _ hbs30) (by rw [HL1.out]; omega) 25
          refine Lib.wp_append_run _ (.tmp 56) (.tmp 59) 25 25 rfl _ _ rfl rfl v37 V35 hrun ?_
          have qs34 := hq _ _ _ qs30 ngs30
          have ngs34 := nf _ qs30.lt ngs30
          refine hK _ _ trivial ?_
          clear hK K
          have hbs34 := s34.hb
          clear s30 hrun nf hq hbs30 qs30 ngs30
          refine g_one (i := 9) rfl rfl (by kernel_rfl) fun K hK => ?_
          obtain ⟨As38, cs38, hvs38, hc, hm, hI⟩ := s34.sv.form
          simp only [List.nil_append] at hvs38 hc hI
          obtain ⟨ln, hln⟩ : ∃ n, n = (y.take k ++ x.drop k).length := ⟨_, rfl⟩
          rw [← hln] at hvs38 hc
          have hRd := read_any As38 cs38 _ ln hln hc hm _ hI
          clear hln hI
          rw [HZ.out] at hRd
          simp only [hv] at hRd
          rw [hvs38]
          go_simp
          refine Calls.mono hRd ?_
          rintro e V39 ⟨rfl, hb3⟩
          have hbs38 := hbs34.trans (hb3.mono hbs34.size)
          have qs38 := qs34.below hb3 qs34.lt
          refine hK _ _ trivial ?_
          clear hK K
          clear s34 hc hm hRd hb3 hbs34 qs34 ngs34
          refine g_take (i := 10) rfl rfl (by kernel_rfl) (by kernel_rfl) (by kernel_rfl) (by kernel_rfl) (by kernel_rfl) (fun _ _ _ h => h) trivial (fun L W hL hW => by go_simp; rfl) ?_
          refine g_take (i := 11) rfl rfl (by kernel_rfl) (by kernel_rfl) (by kernel_rfl) (by kernel_rfl) (by kernel_rfl) (fun _ _ _ h => h) trivial (fun L W hL hW => by go_simp; rfl) ?_
          refine g_take (i := 12) rfl rfl (by kernel_rfl) (by kernel_rfl) (by kernel_rfl) (by kernel_rfl) (by kernel_rfl) (fun _ _ _ h => h) trivial (fun L W hL hW => by go_simp; rfl) ?_
          refine g_one (i := 14) rfl rfl (by kernel_rfl) fun K hK => ?_
          have z0 := Blk.at_ qs38 0 (v := .int .u64 0) rfl
          have z1 := Blk.at_ qs38 1 (v := .int .u64 0) rfl
          have z2 := Blk.at_ qs38 2 (v := .int .u8 0) rfl
          have zf := qs38.frozen
          go_simp
          refine hK _ _ trivial ?_
          clear hK K z0 z1 z2 zf
          refine g_take (i := 15) rfl rfl (by kernel_rfl) (by kernel_rfl) (by kernel_rfl) (by kernel_rfl) (by kernel_rfl) (fun _ _ _ h => h) trivial (fun L W hL hW => by go_simp; rfl) ?_
          refine wpAnyG_done (by kernel_rfl) ?_ _
          go_simp
          go_wp2_with fail
          go_meet
          exact ⟨_, rfl, rfl, ((qs38.set_ 0 _).set_ 1 _).set_ 2 _, ((hbs38.setCell (p := ⟨_, 0, none⟩) hgs28 _).setCell (p := ⟨_, 1, none⟩) hgs28 _).setCell (p := ⟨_, 2, none⟩) hgs28 _⟩
      · have qs40 := Blk.new_ U 24 #[.int .u64 0, .int .u64 0, .int .u8 0] rfl
        have hgs40 := hb.size
        have hbs40 := hb.alloc hgs40 (.cells #[.int .u64 0, .int .u64 0, .int .u8 0] 24)
        go_simp
        refine hK _ _ trivial ?_
        clear hK K
        generalize U.alloc (.cells #[.int .u64 0, .int .u64 0, .int .u8 0] 24) = U41 at *
        clear hb
        refine g_one (i := 0) rfl rfl (by kernel_rfl) fun K hK => ?_
        obtain ⟨F42, s44, nfs44⟩ := St.empty hbs40
        have hbs44 := s44.hb
        have qs44 := qs40.alloc (.cells #[] 5)
        have ngs44 := nfs44 _ qs40.lt
        go_simp
        refine hK _ _ trivial ?_
        clear hK K
        generalize U41.alloc (.cells #[] 5) = U43 at *
        clear hbs40 nfs44 qs40
        refine g_one (i := 4) rfl rfl (by kernel_rfl) fun K hK => ?_
        obtain ⟨v48, V46, F47, hrun, s45, nf, hq⟩ := s44.app (c := cy) HKY.out (HBY.out _ hbs44) (by simp; omega) 25
        refine Lib.wp_append_run _ (.tmp 52) (.tmp 55) 25 25 rfl _ _ rfl rfl v48 V46 hrun ?_
        have qs45 := hq _ _ _ qs44 ngs44
        have ngs45 := nf _ qs44.lt ngs44
        refine hK _ _ trivial ?_
        clear hK K
        have hbs45 := s45.hb
        clear s44 hrun nf hq hbs44 qs44 ngs44
        refine g_one (i := 8) rfl rfl (by kernel_rfl) fun K hK => ?_
        obtain ⟨v52, V50, F51, hrun, s49, nf, hq⟩ := s45.app (c := cx - k) HKX.out (HBX.out _ hbs45) (by rw [HL1.out]; omega) 25
        refine Lib.wp_append_run _ (.tmp 56) (.tmp 59) 25 25 rfl _ _ rfl rfl v52 V50 hrun ?_
        have qs49 := hq _ _ _ qs45 ngs45
        have ngs49 := nf _ qs45.lt ngs45
        refine hK _ _ trivial ?_
        clear hK K
        have hbs49 := s49.hb
        clear s45 hrun nf hq hbs45 qs45 ngs45
        refine g_one (i := 9) rfl rfl (by kernel_rfl) fun K hK => ?_
        obtain ⟨As53, cs53, hvs53, hc, hm, hI⟩ := s49.sv.form
        simp only [List.nil_append] at hvs53 hc hI
        obtain ⟨ln, hln⟩ : ∃ n, n = (y.take k ++ x.drop k).length := ⟨_, rfl⟩
        rw [← hln] at hvs53 hc
        have hRd := read_any As53 cs53 _ ln hln hc hm _ hI
        clear hln hI
        rw [HZ.out] at hRd
        simp only [hv] at hRd
        rw [hvs53]
        go_simp
        refine Calls.mono hRd ?_
        rintro e V54 ⟨rfl, hb3⟩
        have hbs53 := hbs49.trans (hb3.mono hbs49.size)
        have qs53 := qs49.below hb3 qs49.lt
        refine hK _ _ trivial ?_
        clear hK K
        clear s49 hc hm hRd hb3 hbs49 qs49 ngs49
        refine g_take (i := 10) rfl rfl (by kernel_rfl) (by kernel_rfl) (by kernel_rfl) (by kernel_rfl) (by kernel_rfl) (fun _ _ _ h => h) trivial (fun L W hL hW => by go_simp; rfl) ?_
        refine g_take (i := 11) rfl rfl (by kernel_rfl) (by kernel_rfl) (by kernel_rfl) (by kernel_rfl) (by kernel_rfl) (fun _ _ _ h => h) trivial (fun L W hL hW => by go_simp; rfl) ?_
        refine g_take (i := 12) rfl rfl (by kernel_rfl) (by kernel_rfl) (by kernel_rfl) (by kernel_rfl) (by kernel_rfl) (fun _ _ _ h => h) trivial (fun L W hL hW => by go_simp; rfl) ?_
        refine g_one (i := 14) rfl rfl (by kernel_rfl) fun K hK => ?_
        have z0 := Blk.at_ qs53 0 (v := .int .u64 0) rfl
        have z1 := Blk.at_ qs53 1 (v := .int .u64 0) rfl
        have z2 := Blk.at_ qs53 2 (v := .int .u8 0) rfl
        have zf := qs53.frozen
        go_simp
        refine hK _ _ trivial ?_
        clear hK K z0 z1 z2 zf
        refine g_take (i := 15) rfl rfl (by kernel_rfl) (by kernel_rfl) (by kernel_rfl) (by kernel_rfl) (by kernel_rfl) (fun _ _ _ h => h) trivial (fun L W hL hW => by go_simp; rfl) ?_
        refine wpAnyG_done (by kernel_rfl) ?_ _
        go_simp
        go_wp2_with fail
        go_meet
        exact ⟨_, rfl, rfl, ((qs53.set_ 0 _).set_ 1 _).set_ 2 _, ((hbs53.setCell (p := ⟨_, 0, none⟩) hgs40 _).setCell (p := ⟨_, 1, none⟩) hgs40 _).setCell (p := ⟨_, 2, none⟩) hgs40 _⟩
    case rest =>
    obtain ⟨g12, rfl, rfl, q12, hb⟩ := hcut
    have HBY2 : Hid (∀ U, Below wc.heap.size wc U → Bytes U w3.heap.size (some ⟨ry, oy, none⟩) (y.take k)) := Lib.hid fun U hU => HBY.out _ (hb.trans (hU.mono hb.size))
    have p3' := p3.below hb p3.lt
    have p4' := p4.below hb p4.lt
    have hB' := hB.trans (hb.mono hB.size)
    clear p3 p4 hB hb
    have p3 := p3'
    have p4 := p4'
    have hB := hB'
    clear p3' p4' hB'
    obtain ⟨kk, hkk⟩ : ∃ kk, kk = 32 - k := ⟨_, rfl⟩
    have y9 : IntKind.i64.wrap (32 - (k : Int)) = (kk : Int) := by rw [show (32 : Int) - k = kk by omega]; exact IntWalk.i64_in _ (by omega)
    obtain ⟨⟨⟨s0, s1, s2⟩, ok2⟩, hz2⟩ : ∃ r, readR (y.take k ++ List.replicate kk 0) = r := ⟨_, rfl⟩
    obtain ⟨F, st, -⟩ := St.empty (Below.refl wc.heap.size wc)
    obtain ⟨v5, V5, F5, hr5, st5, -, -⟩ := st.app (c := cy) HKY.out (HBY2.out _ st.hb) (by simp; omega) 25
    obtain ⟨v6, V6, F6, hr6, st6, -, -⟩ := st5.zeros kk (by rw [HL1.out]; omega) 25
    obtain ⟨A6, c6, hv6, hc, hm, hI⟩ := st6.sv.form
    simp only [List.nil_append] at hv6 hc hI
    obtain ⟨ln, hln⟩ : ∃ n, n = (y.take k ++ List.replicate kk 0).length := ⟨_, rfl⟩
    rw [← hln] at hv6 hc
    have hRd := read_any A6 c6 _ ln hln hc hm _ hI
    rw [hz2] at hRd
    simp only [hv] at hRd
    have HZ2 := Lib.hid hz2
    have HKK := Lib.hid hkk
    have hb := st6.hb
    have HHB := Lib.hid hb
    subst hv6
    clear hln hI hz2 hkk st st5 st6 HBX hb
    go_wp2_with (at_builtin; first | refine Lib.wpList_append_run _ rfl (.tmp 65) (.tmp 68) 25 25 rfl _ _ rfl rfl v5 V5 hr5 ?_ | refine Lib.wpList_append_run _ rfl (.tmp 69) (.tmp 71) 25 3 rfl _ _ rfl rfl _ V6 hr6 ?_)
    clear hr5 hr6
    refine Calls.mono hRd ?_
    rintro e V7 ⟨rfl, hb7⟩
    have hb := HHB.out.trans (hb7.mono HHB.out.size)
    clear hRd HHB hb7 HBY HBY2 hc hm y9
    have p3' := p3.below hb p3.lt
    have p4' := p4.below hb p4.lt
    have q12' := q12.below hb q12.lt
    have hB' := hB.trans (hb.mono hB.size)
    clear p3 p4 q12 hB hb
    have p3 := p3'
    have p4 := p4'
    have q12 := q12'
    have hB := hB'
    clear p3' p4' q12' hB'
    have q14 := Blk.new_ V7 24 #[.int .u64 (s0 : Nat), .int .u64 (s1 : Nat), .int .u8 (s2 : Nat)] rfl
    have hb := (Below.refl V7.heap.size V7).alloc (Nat.le_refl _) (.cells #[.int .u64 (s0 : Nat), .int .u64 (s1 : Nat), .int .u8 (s2 : Nat)] 24)
    have p3' := p3.below hb p3.lt
    have p4' := p4.below hb p4.lt
    have q12' := q12.below hb q12.lt
    have hB' := hB.trans (hb.mono hB.size)
    clear p3 p4 q12 hB hb
    have p3 := p3'
    have p4 := p4'
    have q12 := q12'
    have hB := hB'
    clear p3' p4' q12' hB'
    go_upto_region 10 with fail
    generalize V7.alloc (.cells #[.int .u64 (s0 : Nat), .int .u64 (s1 : Nat), .int .u8 (s2 : Nat)] 24) = V at *
    generalize V7.heap.size = g14 at *
    have L1 := torn_one wg wh HNE.out hk33 HRG.out HRH.out (r := (⟨r0, r1, r2⟩, ok)) (by rw [← HXE.out, ← HYE.out]; exact HZ.out)
    have L2 := torn_two wh hk33 HRH.out (r := (⟨s0, s1, s2⟩, ok2)) (by rw [← HYE.out, ← HKK.out]; exact HZ2.out)
    have f0 := Blk.at_ p3 0 (v := .int .u64 (a0 : Nat)) rfl
    have f1 := Blk.at_ p3 1 (v := .int .u64 (b0 : Nat)) rfl
    have f2 := Blk.at_ p3 2 (v := .int .u8 (c0 : Nat)) rfl
    have g0 := Blk.at_ p4 0 (v := .int .u64 (a1 : Nat)) rfl
    have g1 := Blk.at_ p4 1 (v := .int .u64 (b1 : Nat)) rfl
    have g2 := Blk.at_ p4 2 (v := .int .u8 (c1 : Nat)) rfl
    have HAW := fun W => awake_any W
    have une2 : ¬ (a1 : Int) = (a0 : Int) := by omega
    clear HNE HXE HYE HRG HRH HZ HZ2 HKK HKX HKY HL1 HLX HLY hkp t3 i1 i2 i3 i4 hlx hly hmx hmy hrx hry wg wh p3 p4
    rcases L1 with ⟨h1, h1'⟩ | ⟨h1, h1', h1''⟩ | ⟨h1, h1', h1''⟩
    · cases h1
      have k1 : 0 < (k : Int) := by omega
      have k2 : (k : Int) < 32 := by omega
      rcases L2 with ⟨h2, h2'⟩ | ⟨h2, h2', h2''⟩
      · cases h2
        go_wp2_with fail
        refine Calls.mono (HAW _) ?_
        rintro e wz ⟨rfl, hb⟩
        have hB2 := hB.trans (hb.mono hB.size)
        go_wp2_with fail
        go_ret
        exact ⟨rfl, hB2⟩
      · cases h2
        cases h2'
        have x0 := Blk.at_ q14 0 (v := .int .u64 (a1 : Nat)) rfl
        have x1 := Blk.at_ q14 1 (v := .int .u64 (b1 : Nat)) rfl
        have x2 := Blk.at_ q14 2 (v := .int .u8 (c1 : Nat)) rfl
        go_wp2_with fail
        refine Calls.mono (HAW _) ?_
        rintro e wz ⟨rfl, hb⟩
        have hB2 := hB.trans (hb.mono hB.size)
        go_wp2_with fail
        go_ret
        exact ⟨rfl, hB2⟩
    · cases h1
      cases h1'
      have z0 := Blk.at_ q12 0 (v := .int .u64 (a0 : Nat)) rfl
      have z1 := Blk.at_ q12 1 (v := .int .u64 (b0 : Nat)) rfl
      have z2 := Blk.at_ q12 2 (v := .int .u8 (c0 : Nat)) rfl
      have k2 : (k : Int) < 32 := by omega
      rcases L2 with ⟨h2, h2'⟩ | ⟨h2, h2', h2''⟩
      · cases h2
        by_cases hk0 : 0 < k
        · have k1 : 0 < (k : Int) := by omega
          go_wp2_with fail
          refine Calls.mono (HAW _) ?_
          rintro e wz ⟨rfl, hb⟩
          have hB2 := hB.trans (hb.mono hB.size)
          go_wp2_with fail
          go_ret
          exact ⟨rfl, hB2⟩
        · have k1 : ¬ 0 < (k : Int) := by omega
          go_wp2_with fail
          refine Calls.mono (HAW _) ?_
          rintro e wz ⟨rfl, hb⟩
          have hB2 := hB.trans (hb.mono hB.size)
          go_wp2_with fail
          go_ret
          exact ⟨rfl, hB2⟩
      · cases h2
        cases h2'
        have k1 : 0 < (k : Int) := by omega
        have x0 := Blk.at_ q14 0 (v := .int .u64 (a1 : Nat)) rfl
        have x1 := Blk.at_ q14 1 (v := .int .u64 (b1 : Nat)) rfl
        have x2 := Blk.at_ q14 2 (v := .int .u8 (c1 : Nat)) rfl
        go_wp2_with fail
        refine Calls.mono (HAW _) ?_
        rintro e wz ⟨rfl, hb⟩
        have hB2 := hB.trans (hb.mono hB.size)
        go_wp2_with fail
        go_ret
        exact ⟨rfl, hB2⟩
    · cases h1
      cases h1'
      have z0 := Blk.at_ q12 0 (v := .int .u64 (a1 : Nat)) rfl
      have z1 := Blk.at_ q12 1 (v := .int .u64 (b1 : Nat)) rfl
      have z2 := Blk.at_ q12 2 (v := .int .u8 (c1 : Nat)) rfl
      have k1 : 0 < (k : Int) := by omega
      rcases L2 with ⟨h2, h2'⟩ | ⟨h2, h2', h2''⟩
      · cases h2
        have k2 : (k : Int) < 32 := by omega
        go_wp2_with fail
        refine Calls.mono (HAW _) ?_
        rintro e wz ⟨rfl, hb⟩
        have hB2 := hB.trans (hb.mono hB.size)
        go_wp2_with fail
        go_ret
        exact ⟨rfl, hB2⟩
      · cases h2
        cases h2'
        have x0 := Blk.at_ q14 0 (v := .int .u64 (a1 : Nat)) rfl
        have x1 := Blk.at_ q14 1 (v := .int .u64 (b1 : Nat)) rfl
        have x2 := Blk.at_ q14 2 (v := .int .u8 (c1 : Nat)) rfl
        by_cases hk2 : k < 32
        · have k2 : (k : Int) < 32 := by omega
          go_wp2_with fail
          refine Calls.mono (HAW _) ?_
          rintro e wz ⟨rfl, hb⟩
          have hB2 := hB.trans (hb.mono hB.size)
          go_wp2_with fail
          go_ret
          exact ⟨rfl, hB2⟩
        · have k2 : ¬ (k : Int) < 32 := by omega
          go_wp2_with fail
          refine Calls.mono (HAW _) ?_
          rintro e wz ⟨rfl, hb⟩
          have hB2 := hB.trans (hb.mono hB.size)
          go_wp2_with fail
          go_ret
          exact ⟨rfl, hB2⟩
end Go.Proofs.Ytpohefpiidlnjaa.HdW
