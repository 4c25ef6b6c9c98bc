/-
  The walk of rec.All.
-/
import Derived.Test.YtboikajfcmgffaaRecWalks4
import Derived.Test.YtboikajfcmgffaaWordsRange
import Derived.Test.YtboikajfcmgffaaWordsHeld
namespace Go.Proofs.Ytboikajfcmgffaa.RecW
open Go.RowKit Go.Shelf Go.Proofs Go.Proofs.Ytboikajfcmgffaa Go.Proofs.Ytboikajfcmgffaa.Wd Go.Proofs.Ytboikajfcmgffaa.CrcW
open Go.Proofs.Ytboikajfcmgffaa.Rec (R takeErr takeEnd takeRec)
attribute [local go_sem] Oper.semAt_some

/-- Blocks of bytes that nothing froze lie as they lay. -/
def KeepU8 (w w' : World) : Prop := ∀ (g : Nat) (cs : Array Value), w.heap[g]? = some (.cells cs 5 (0, 0)) → w'.heap[g]? = some (.cells cs 5 (0, 0))
theorem KeepU8.refl (w : World) : KeepU8 w w := fun _ _ h => h
theorem KeepU8.trans {a b c : World} (h : KeepU8 a b) (k : KeepU8 b c) : KeepU8 a c := fun g cs hg => k g cs (h g cs hg)
theorem KeepU8.below {w w' : World} (h : Below w.heap.size w w') : KeepU8 w w' := fun g _ hg => (h.block g (Array.getElem?_eq_some_iff.1 hg).1).trans hg
theorem KeepU8.turns {B : Nat} {w w' : World} (h : Turns B w w') : KeepU8 w w' := fun g _ hg => h.cells g _ hg rfl
theorem KeepU8.alloc (w : World) (o : Obj) : KeepU8 w (w.alloc o) := fun g _ hg => (Below.heap_alloc w o g (Array.getElem?_eq_some_iff.1 hg).1).trans hg
theorem KeepU8.set_ {w : World} {g : Nat} {t : TypeId} {cs : Array Value} (h : Blk w g t cs) (ht : t ≠ 5) (i : Nat) (u : Value) : KeepU8 w (w.setCell ⟨g, i, none⟩ u) := fun k cs' hk => by
  have hne : k ≠ g := fun e => by subst e; exact Blk.ne_ h (cs' := cs') hk ht rfl
  exact (heap_setCell_other w _ k u hne).trans hk
theorem KeepU8.grown {w w' : World} {row : Option Nat} (h : w.grownBy w' row) (hr : ∀ g, row = some g → ∃ t cs fr, w.heap[g]? = some (.cells cs t fr) ∧ t ≠ 5) : KeepU8 w w' := fun k cs' hk => by
  refine (h.block k (Array.getElem?_eq_some_iff.1 hk).1 (fun e => ?_)).trans hk
  obtain ⟨t, cs, fr, hg, ht⟩ := hr k e.symm
  rw [hk] at hg
  injection hg with hg
  injection hg with _ hg
  exact ht hg.symm
theorem own_u8 {w w' : World} {B n : Nat} {v : Value} {xs : List Value} (h : w.ownsRow B 5 1 v n xs) (hk : KeepU8 w w') : w'.ownsRow B 5 1 v n xs := by
  obtain ⟨h1, h2⟩ := h
  refine ⟨h1, ?_⟩
  rcases h2 with h2 | ⟨g, cap, cur, hv, hg, hh, r⟩
  · exact .inl h2
  · exact .inr ⟨g, cap, cur, hv, hg, hk g cur hh, r⟩
/-- The cells of records. -/
def RecsAt (w : World) (B : Nat) (xs : List Value) (rs : List R) : Prop :=
  xs.length = rs.length * 2 ∧ ∀ j (h : j < rs.length), ∃ v, xs[2 * j]? = some (.int .u8 (rs[j].1.toNat : Nat)) ∧ xs[2 * j + 1]? = some v ∧ w.ownsRow B 5 1 v rs[j].2.length (bs rs[j].2)
theorem RecsAt.nil (w : World) (B : Nat) : RecsAt w B [] [] := ⟨rfl, fun _ h => absurd h (Nat.not_lt_zero _)⟩
theorem RecsAt.keep {w w' : World} {B : Nat} {xs : List Value} {rs : List R} (h : RecsAt w B xs rs) (hk : KeepU8 w w') : RecsAt w' B xs rs :=
  ⟨h.1, fun j hj => let ⟨v, h1, h2, h3⟩ := h.2 j hj; ⟨v, h1, h2, own_u8 h3 hk⟩⟩
theorem RecsAt.snoc {w : World} {B : Nat} {xs : List Value} {rs : List R} (h : RecsAt w B xs rs) {k : UInt8} {v : Value} {d : List UInt8} (hv : w.ownsRow B 5 1 v d.length (bs d)) :
    RecsAt w B (xs ++ [.int .u8 (k.toNat : Nat), v]) (rs ++ [(k, d)]) := by
  obtain ⟨hl, ha⟩ := h
  refine ⟨by simp [hl]; omega, fun j hj => ?_⟩
  by_cases hlt : j < rs.length
  · obtain ⟨u, h1, h2, h3⟩ := ha j hlt
    refine ⟨u, ?_, ?_, ?_⟩
    · rw [List.getElem?_append_left (by omega), List.getElem_append_left hlt]; exact h1
    · rw [List.getElem?_append_left (by omega)]; exact h2
    · rw [List.getElem_append_left hlt]; exact h3
  · have : j = rs.length := by simp at hj; omega
    subst this
    refine ⟨v, ?_, ?_, ?_⟩
    · rw [List.getElem?_append_right (by omega)]; simp [show 2 * rs.length - xs.length = 0 by omega]
    · rw [List.getElem?_append_right (by omega)]; simp [show 2 * rs.length + 1 - xs.length = 1 by omega]
    · simpa using hv
/-- What All answers. -/
def AllOut (w : World) (b : List UInt8) (e : Ending) (w' : World) : Prop :=
  ∃ v xs, e = .returned (.tuple #[v, .int .i64 ((Rec.all b).2.1 : Nat), .int .i64 ((Rec.all b).2.2 : Nat)]) ∧ Below w.heap.size w w' ∧ w'.ownsRow w.heap.size 39 2 v (Rec.all b).1.length xs ∧ RecsAt w' w.heap.size xs (Rec.all b).1

/-- What a round gets. -/
structure Got where
  k : UInt8
  v : Value
  d : List UInt8
  m : Nat
  e : Nat
/-- All's own memory between two rounds. -/
def Held (w : World) (s : List R × Nat) (W : World) : Prop :=
  Below w.heap.size w W ∧ Blk W w.heap.size 22 #[.slice none 0 0] ∧ Blk W (w.heap.size + 1) 3 #[.int .i64 0] ∧ Blk W (w.heap.size + 1 + 1) 30 #[.int .i64 0] ∧
  (∃ v xs, Blk W (w.heap.size + 1 + 1 + 1) 22 #[v] ∧ W.ownsRow w.heap.size 39 2 v s.1.length xs ∧ RecsAt W w.heap.size xs s.1) ∧ Blk W (w.heap.size + 1 + 1 + 1 + 1) 3 #[.int .i64 s.2] ∧ w.heap.size + 6 ≤ W.heap.size ∧ ∃ cs, Blk W (w.heap.size + 1 + 1 + 1 + 1 + 1) 24 cs
def HeldX (w : World) (s : List R × Nat) (x : Got) (W : World) : Prop :=
  Below w.heap.size w W ∧ (∃ v xs, Blk W w.heap.size 22 #[v] ∧ W.ownsRow w.heap.size 39 2 v s.1.length xs ∧ RecsAt W w.heap.size xs s.1) ∧ Blk W (w.heap.size + 1) 3 #[.int .i64 s.2] ∧ Blk W (w.heap.size + 1 + 1) 30 #[.int .i64 x.e]
theorem Turns.blk {B : Nat} {W W' : World} (h : Turns B W W') {g : Nat} {t : TypeId} {cs : Array Value} (hg : Blk W g t cs) : Blk W' g t cs := h.cells g _ hg rfl
theorem own_turns {B B' : Nat} {W W' : World} (h : Turns B' W W') {e : TypeId} {size n : Nat} {v : Value} {xs : List Value} (ho : W.ownsRow B e size v n xs) : W'.ownsRow B e size v n xs := by
  obtain ⟨h1, h2⟩ := ho
  refine ⟨h1, ?_⟩
  rcases h2 with h2 | ⟨g, cap, cur, hv, hg, hh, r⟩
  · exact .inl h2
  · exact .inr ⟨g, cap, cur, hv, hg, h.cells g _ hh rfl, r⟩
theorem Held.turns {w W W' : World} {s : List R × Nat} (h : Held w s W) {B : Nat} (hB : w.heap.size ≤ B) (ht : Turns B W W') : Held w s W' := by
  obtain ⟨h1, h2, h3, h4, ⟨v, xs, h5, h6, h7⟩, h8, h9, cs, h10⟩ := h
  exact ⟨h1.trans (ht.below.mono hB), Turns.blk ht h2, Turns.blk ht h3, Turns.blk ht h4, ⟨v, xs, Turns.blk ht h5, own_turns ht h6, h7.keep (KeepU8.turns ht)⟩, Turns.blk ht h8, Nat.le_trans h9 ht.below.size, cs, Turns.blk ht h10⟩
theorem HeldX.turns {w W W' : World} {s : List R × Nat} {x : Got} (h : HeldX w s x W) {B : Nat} (hB : w.heap.size ≤ B) (ht : Turns B W W') : HeldX w s x W' := by
  obtain ⟨h1, ⟨v, xs, h5, h6, h7⟩, h2, h3⟩ := h
  exact ⟨h1.trans (ht.below.mono hB), ⟨v, xs, Turns.blk ht h5, own_turns ht h6, h7.keep (KeepU8.turns ht)⟩, Turns.blk ht h2, Turns.blk ht h3⟩

theorem each_in (a : Option Addr) (len cap : Nat) (w : World) :
    CallsIn Fence.wide 9 Try.prog 22 #[.slice a len cap] w fun e w' => e = .returned (.func (.func 31) #[] #[.pointer (some ⟨w.heap.size, 0, none⟩)]) ∧ w' = w.alloc (.cells #[.slice a len cap] 24) := by
  refine callsIn_of_wp Try.func22 rfl trivial ?_ rfl
  simp only [Try.ntmps22, List.size_toArray, List.length_cons, List.length_nil, Nat.reduceAdd, Nat.reduceSub, Array.replicate_succ, Array.replicate_zero, List.push_toArray, List.append_toArray, List.nil_append, List.cons_append]
  gi_wp2
  go_ret
  exact ⟨rfl, rfl⟩

theorem infoRec : (Try.prog.info? 39).map (fun i => (i.zero, i.size, i.bytes)) = some (some (.agg #[.int .u8 0, .slice none 0 0]), 2, 32) := by kernel_rfl
set_option maxRecDepth 100000 in
set_option maxHeartbeats 2000000 in
theorem all_any (A : Option Addr) (cap : Nat) (b : List UInt8) (hbc : b.length ≤ cap) (hreach : b.length ≤ 1000000000000) (w : World) (hI : Bytes w w.heap.size A b) :
    Calls Try.prog 11 #[.slice A b.length cap] w (AllOut w b) := by
  refine (callsIn_wide (n := 10)).1 ?_
  refine callsIn_of_wp_marks Try.func11 rfl trivial ?_ rfl
  simp only [Try.ntmps11, List.size_toArray, List.length_cons, List.length_nil, Nat.reduceAdd, Nat.reduceSub, Array.replicate_succ, Array.replicate_zero, List.push_toArray, List.append_toArray, List.nil_append, List.cons_append]
  gi_wp2_with fail
  refine ⟨trivial, ?_⟩
  refine (each_in _ _ _ _).mono ?_
  rintro e w' ⟨rfl, rfl⟩
  gi_wp2_with fail
  have z0 := Blk.new_ w 22 #[.slice none 0 0] rfl
  have z1 := Blk.new_ (w.alloc (.cells #[.slice none 0 0] 22)) 3 #[.int .i64 0] (n := w.heap.size + 1) (by simp)
  have z2 := Blk.new_ ((w.alloc (.cells #[.slice none 0 0] 22)).alloc (.cells #[.int .i64 0] 3)) 30 #[.int .i64 0] (n := w.heap.size + 1 + 1) (by simp)
  have z3 := Blk.new_ (((w.alloc (.cells #[.slice none 0 0] 22)).alloc (.cells #[.int .i64 0] 3)).alloc (.cells #[.int .i64 0] 30)) 22 #[.slice none 0 0] (n := w.heap.size + 1 + 1 + 1) (by simp)
  have z4 := Blk.new_ ((((w.alloc (.cells #[.slice none 0 0] 22)).alloc (.cells #[.int .i64 0] 3)).alloc (.cells #[.int .i64 0] 30)).alloc (.cells #[.slice none 0 0] 22)) 3 #[.int .i64 0] (n := w.heap.size + 1 + 1 + 1 + 1) (by simp)
  have z5 := Blk.new_ (((((w.alloc (.cells #[.slice none 0 0] 22)).alloc (.cells #[.int .i64 0] 3)).alloc (.cells #[.int .i64 0] 30)).alloc (.cells #[.slice none 0 0] 22)).alloc (.cells #[.int .i64 0] 3)) 24 #[.slice A b.length cap] (n := w.heap.size + 1 + 1 + 1 + 1 + 1) (by simp)
  have hB0 : Below w.heap.size w ((((((w.alloc (.cells #[.slice none 0 0] 22)).alloc (.cells #[.int .i64 0] 3)).alloc (.cells #[.int .i64 0] 30)).alloc (.cells #[.slice none 0 0] 22)).alloc (.cells #[.int .i64 0] 3)).alloc (.cells #[.slice A b.length cap] 24)) :=
    ((((((Below.refl _ w).alloc (Nat.le_refl _) _).alloc (by simp) _).alloc (by simp; omega) _).alloc (by simp; omega) _).alloc (by simp; omega) _).alloc (by simp; omega) _
  have h0 : Held w ([], 0) ((((((w.alloc (.cells #[.slice none 0 0] 22)).alloc (.cells #[.int .i64 0] 3)).alloc (.cells #[.int .i64 0] 30)).alloc (.cells #[.slice none 0 0] 22)).alloc (.cells #[.int .i64 0] 3)).alloc (.cells #[.slice A b.length cap] 24)) :=
    ⟨hB0, ((((z0.alloc _).alloc _).alloc _).alloc _).alloc _, (((z1.alloc _).alloc _).alloc _).alloc _, ((z2.alloc _).alloc _).alloc _, ⟨_, [], (z3.alloc _).alloc _, World.ownsRow_nil _ _ _ _, RecsAt.nil _ _⟩, z4.alloc _, by simp, _, z5⟩
  have hsz : ((((((w.alloc (.cells #[.slice none 0 0] 22)).alloc (.cells #[.int .i64 0] 3)).alloc (.cells #[.int .i64 0] 30)).alloc (.cells #[.slice none 0 0] 22)).alloc (.cells #[.int .i64 0] 3)).alloc (.cells #[.slice A b.length cap] 24)).heap.size = w.heap.size + 6 := by simp
  clear z0 z1 z2 z3 z4
  generalize ((((((w.alloc (.cells #[.slice none 0 0] 22)).alloc (.cells #[.int .i64 0] 3)).alloc (.cells #[.int .i64 0] 30)).alloc (.cells #[.slice none 0 0] 22)).alloc (.cells #[.int .i64 0] 3)).alloc (.cells #[.slice A b.length cap] 24)) = w6 at *
  refine range_ev (gf := 31) (lb := #[.pointer (some ⟨w.heap.size + 1 + 1 + 1 + 1 + 1, 0, none⟩)]) rfl (enters_of Try.func31 (by kernel_rfl) rfl)
    (fun x : Got => #[enc x.k x.v x.m x.e]) (fun _ => rfl) (fun s x => (s.1 ++ [(x.k, x.d)], x.m)) ([], 0) (fun s x W => W.ownsRow w.heap.size 5 1 x.v x.d.length (bs x.d) ∧ s.1.length ≤ b.length) (fun x => x.e == 0)
    (fun W W' => Below w.heap.size W W' ∧ W'.heap[w.heap.size + 1 + 1 + 1 + 1 + 1]? = W.heap[w.heap.size + 1 + 1 + 1 + 1 + 1]?) (fun h k => ⟨h.1.trans k.1, k.2.trans h.2⟩) ?kb
    (fun s => Rec.all b = (s.1, s.2, 0)) (fun s x => x.e ≠ 0 ∧ Rec.all b = (s.1, s.2, x.e)) ?seq (Held w) (HeldX w) (fun s W W' h ht => h.turns (by omega) ht) (fun s x W W' h ht => h.turns (by omega) ht) (fun s x W W' h ht => ⟨own_turns ht h.1, h.2⟩) h0
    (fun s x a' W => ∃ g, w.heap.size + 6 ≤ g ∧ Blk W g 52 #[.int .u8 (x.k.toNat : Nat), x.v, .int .i64 x.m, .int .i64 x.e] ∧ a' = { tmps := #[.slice A b.length cap, undef, .pointer (some ⟨w.heap.size, 0, none⟩), .pointer (some ⟨w.heap.size + 1, 0, none⟩), .pointer (some ⟨w.heap.size + 1 + 1, 0, none⟩), .pointer (some ⟨w.heap.size + 1 + 1 + 1, 0, none⟩), .pointer (some ⟨w.heap.size + 1 + 1 + 1 + 1, 0, none⟩), .pointer (some ⟨g, 0, none⟩), .slice A b.length cap, .func (.func 31) #[] #[.pointer (some ⟨w.heap.size + 1 + 1 + 1 + 1 + 1, 0, none⟩)], enc x.k x.v x.m x.e, undef, undef, undef, undef, undef, undef, undef, undef, undef, undef, undef, undef, undef, undef, undef, undef], defers := [] })
    (fun s x a' W W' h ht => let ⟨g, h1, h2, h3⟩ := h; ⟨g, h1, Turns.blk ht h2, h3⟩) ?assign ?body ?done ?stop
  case kb =>
    intro W l o o' hl ho hc
    exact ⟨(Turns.putObj o' (by omega) ho hc).below, World.putObj_heap_other (by omega)⟩
  case seq =>
    intro l J Jx W hT hJ hY hj0
    refine (each1_in l (w.heap.size + 1 + 1 + 1 + 1 + 1) w.heap.size A cap b hbc hreach (fun pre at_ W => J (pre, at_) W) (fun pre at_ e W => ∃ x : Got, x.e = e ∧ Jx (pre, at_) x W) (fun pre at_ W W' h hb => hJ _ _ _ h hb) ?_ W (Nat.le_trans hB0.size hT.below.size) (Turns.blk hT z5) ((hI.below hB0).below (hT.below.mono hB0.size)) hj0).mono ?_
    · intro pre at_ k v d m e W1 hj ho hl
      refine (hY (pre, at_) ⟨k, v, d, m, e⟩ W1 hj ⟨ho, hl⟩).mono ?_
      rintro en W2 (⟨h1, h2, h3, h4, h5⟩ | ⟨h1, h2, h3⟩)
      · exact .inl ⟨by simpa using h2, h1, h3, h4, h5⟩
      · exact .inr ⟨by simpa using h2, h1, _, rfl, h3⟩
    · rintro en W2 ⟨hv, (⟨pre, h1, h2⟩ | ⟨pre, at_, x, hx, h1, ⟨y, rfl, h2⟩⟩)⟩
      · exact ⟨hv, .inl ⟨(pre, b.length), h1, h2⟩⟩
      · exact ⟨hv, .inr ⟨(pre, at_), y, ⟨hx, h1⟩, h2⟩⟩
  case assign =>
    intro l s x W K hH hE hK
    have infoT : (Try.prog.info? 52).map (·.size) = some 4 := by kernel_rfl
    have hz := Blk.new_ W 52 #[.int .u8 0, .slice none 0 0, .int .i64 0, .int .i64 0] rfl
    have hsW := hH.1.size
    have hvo := own_one hE.1
    have hb : Below W.heap.size W ((W.alloc (.cells #[.int .u8 0, .slice none 0 0, .int .i64 0, .int .i64 0] 52)).setRow W.heap.size #[.int .u8 (x.k.toNat : Nat), x.v, .int .i64 x.m, .int .i64 x.e]) := below_setRow ((Below.refl _ W).alloc (Nat.le_refl _) _) (Nat.le_refl _) _
    have HK := Lib.hid hK
    clear hK
    unfold enc
    gi_wp2_with (refine wpListIn_put_row rfl rfl 52 (.tmp 7) (.tmp 10) rfl W.heap.size rfl 52 _ #[.int .u8 (x.k.toNat : Nat), x.v, .int .i64 x.m, .int .i64 x.e] rfl hz (by rw [infoT]; rfl) rfl (by intro u hu; simp at hu; rcases hu with rfl | rfl | rfl | rfl <;> first | rfl | exact hvo) ?_)
    have hT : Turns w6.heap.size W _ := Turns.of_below hb (by have := hH.2.2.2.2.2.2.1; omega)
    exact HK.out _ _ (keepsOthers_below hb) ⟨hb.mono hsW, hb.block _ (by have := hH.2.2.2.2.2.2.1; omega)⟩ (hH.turns (by omega) hT) ⟨own_turns hT hE.1, hE.2⟩ ⟨W.heap.size, hH.2.2.2.2.2.2.1, hz.row _, rfl⟩
  case body =>
    obtain ⟨i0, hi0, hz0, hz1, hz2⟩ := info_parts infoRec
    rintro l s ⟨xk, xv, xd, xm, xe⟩ a' W hH ⟨hE, hsl⟩ ⟨g, hg, hgb, rfl⟩
    dsimp only at hE hsl hgb ⊢
    obtain ⟨A2, cp2, rfl⟩ := own_form hE
    obtain ⟨hB, q0, q1, q2, ⟨v, xs, q3, ho, hr⟩, q4, hq, cs5, q5⟩ := hH
    have c2 := hgb.cell 2
    have c3 := hgb.cell 3
    simp only [List.getElem?_toArray, List.getElem?_cons_zero, List.getElem?_cons_succ] at c2 c3
    by_cases he : xe = 0
    · have hne : (((xe : Nat) : Int) != 0) = false := by rw [he]; rfl
      have HE := Lib.hid he
      clear he
      gi_wp2_with fail
      obtain ⟨A1, cp1, rfl⟩ := own_form ho
      have c0 := Blk.at_ hgb 0 rfl
      have c1 := Blk.at_ hgb 1 rfl
      refine wpIn_region_heldG [7] (fun st W' => Blk W' g 52 #[.int .u8 (xk.toNat : Nat), .slice A2 xd.length cp2, .int .i64 xm, .int .i64 xe] ∧ (st 7 = false → Blk W' (w.heap.size + 1 + 1 + 1) 22 #[.slice A1 s.1.length cp1])) (by kernel_rfl) (by kernel_rfl) (by rintro ⟨_, _, h⟩; exact h) ?_
      have hS := (⟨hgb.drew, fun _ => q3.drew⟩ : Blk W.drew g 52 #[.int .u8 (xk.toNat : Nat), .slice A2 xd.length cp2, .int .i64 xm, .int .i64 xe] ∧ (came [7] (Array.replicate 9 false) 7 = false → Blk W.drew (w.heap.size + 1 + 1 + 1) 22 #[.slice A1 s.1.length cp1]))
      change wpAnyG _ _ _ _ _ _ 9 _ _ W.drew
      refine g_take (i := 0) rfl rfl (by kernel_rfl) (by kernel_rfl) (by kernel_rfl) (by kernel_rfl) (by kernel_rfl) (fun _ _ _ h => h) hS (fun L W hL hW => by have c := Blk.at_ (hW.2 (by simp [came, hL 7 (by kernel_rfl)])) 0 rfl; go_simp; rfl) ?_
      refine g_take (i := 1) rfl rfl (by kernel_rfl) (by kernel_rfl) (by kernel_rfl) (by kernel_rfl) (by kernel_rfl) (fun _ _ _ h => h) hS (fun L W hL hW => by go_simp; rfl) ?_
      refine g_take (i := 2) rfl rfl (by kernel_rfl) (by kernel_rfl) (by kernel_rfl) (by kernel_rfl) (by kernel_rfl) (fun _ _ _ h => h) hS (fun L W hL hW => by have c0 := Blk.at_ hW.1 0 rfl; have c1 := Blk.at_ hW.1 1 rfl; go_simp; rfl) ?_
      refine g_take (i := 5) rfl rfl (by kernel_rfl) (by kernel_rfl) (by kernel_rfl) (by kernel_rfl) (by kernel_rfl) (fun _ _ _ h => h) hS (fun L W hL hW => by go_simp; rfl) ?_
      refine g_take (i := 6) rfl rfl (by kernel_rfl) (by kernel_rfl) (by kernel_rfl) (by kernel_rfl) (by kernel_rfl) (fun _ _ _ h => h) hS (fun L W hL hW => by have c2 := Blk.at_ hW.1 2 rfl; go_simp; rfl) ?_
      refine g_one (i := 3) rfl rfl (by kernel_rfl) fun K hK => ?_
      go_simp
      refine hK _ _ ⟨hgb.drew.alloc _, fun _ => q3.drew.alloc _⟩ ?_
      clear hK K
      refine g_one (i := 4) rfl rfl (by kernel_rfl) fun K hK => ?_
      have hv1 := own_one hE
      refine wp_append_lies _ (.tmp 18) (.tmp 21) 22 rfl w.heap.size 39 i0 _ 2 32 Try.underlying22 hi0 hz0 hz1 hz2 rfl (by omega) _ _ xs rfl (ho.drew.alloc _) ⟨W.heap.size, 0, none⟩ 1 1 [.int .u8 (xk.toNat : Nat), .slice A2 xd.length cp2] rfl rfl (World.news_of_block (heap_alloc_new W _)) (by intro u hu; simp at hu; rcases hu with rfl | rfl; rfl; exact hv1) (by omega) (by unfold maxLen; omega) (by omega) (by simp; omega) (W.heap.size + 1) (by simp) ?_
      intro g3 cap3 w4 hown hgrow hat hlt
      have hn3 : (Value.slice A1 s.1.length cp1).ownBlock ≠ some g := own_blk_ne ho hgb (by decide)
      have hn4 : (Value.slice A1 s.1.length cp1).ownBlock ≠ some (w.heap.size + 1 + 1 + 1) := own_blk_ne ho q3 (by decide)
      have hn5 : (Value.slice A1 s.1.length cp1).ownBlock ≠ some (w.heap.size + 1 + 1 + 1 + 1) := own_blk_ne ho q4 (by decide)
      have hn0 : (Value.slice A1 s.1.length cp1).ownBlock ≠ some (w.heap.size) := own_blk_ne ho q0 (by decide)
      have hn1 : (Value.slice A1 s.1.length cp1).ownBlock ≠ some (w.heap.size + 1) := own_blk_ne ho q1 (by decide)
      have hn2 : (Value.slice A1 s.1.length cp1).ownBlock ≠ some (w.heap.size + 1 + 1) := own_blk_ne ho q2 (by decide)
      have r3 := (q3.drew.alloc (.cells #[.int .u8 (xk.toNat : Nat), .slice A2 xd.length cp2] 39)).grown hgrow hn4.symm
      have r4 := (q4.drew.alloc (.cells #[.int .u8 (xk.toNat : Nat), .slice A2 xd.length cp2] 39)).grown hgrow hn5.symm
      have rg := (hgb.drew.alloc (.cells #[.int .u8 (xk.toNat : Nat), .slice A2 xd.length cp2] 39)).grown hgrow hn3.symm
      have rg' := rg.frozen 0
      have ob : Obj → World := fun o => W.drew.alloc o
      have hrow := fun (k : Nat) (hk : (Value.slice A1 s.1.length cp1).ownBlock = some k) => own_row (ho.drew.alloc (.cells #[.int .u8 (xk.toNat : Nat), .slice A2 xd.length cp2] 39)) hk
      have n3 := own_blk_ne hown r3 (by decide)
      have n4 := own_blk_ne hown r4 (by decide)
      have hKO : KeepsOthers W w4 := ((KeepsOthers.drew W).trans (KeepsOthers.alloc _ _)).trans (KeepsOthers.of_grownBy hgrow fun j o hj ho' => by
        obtain ⟨_, cs, hb⟩ := hrow j hj
        have := hb.out.symm.trans ho'
        cases this; rfl)
      have hBw : Below w.heap.size W w4 := ((Below.refl _ W).drew.alloc (by simp; omega) _).grown hgrow (by simp; omega) (fun k hk => (hrow k hk).1)
      have hKU : KeepU8 W w4 := (KeepU8.alloc W.drew _).trans (KeepU8.grown hgrow fun k hk => by
        obtain ⟨_, cs, hb⟩ := hrow k hk
        exact ⟨_, _, _, hb.out, by decide⟩)
      have hr4 := (hr.keep hKU).snoc (k := xk) (own_u8 hE hKU)
      have k0 := (q0.drew.alloc (.cells #[.int .u8 (xk.toNat : Nat), .slice A2 xd.length cp2] 39)).grown hgrow hn0.symm
      have k1 := (q1.drew.alloc (.cells #[.int .u8 (xk.toNat : Nat), .slice A2 xd.length cp2] 39)).grown hgrow hn1.symm
      have k2 := (q2.drew.alloc (.cells #[.int .u8 (xk.toNat : Nat), .slice A2 xd.length cp2] 39)).grown hgrow hn2.symm
      have k5 := (q5.drew.alloc (.cells #[.int .u8 (xk.toNat : Nat), .slice A2 xd.length cp2] 39)).grown hgrow (own_blk_ne ho q5 (by decide)).symm
      have k5' : w4.heap[w.heap.size + 1 + 1 + 1 + 1 + 1]? = W.heap[w.heap.size + 1 + 1 + 1 + 1 + 1]? := k5.out.trans q5.out.symm
      have hz4 : w.heap.size + 6 ≤ w4.heap.size := Nat.le_trans hq hKO.size
      clear hgrow hrow hn0 hn1 hn2 hn3 hn4 hn5 hat hlt q0 q1 q2 q3 q4 q5 hgb ho hr hE hS rg' ob hKU
      refine hK _ _ ⟨rg, fun _ => r3⟩ ?_
      clear hK K
      refine g_one (i := 7) rfl rfl (by kernel_rfl) fun K hK => ?_
      have f3 := r3.frozen 0
      have c3 := Blk.at_ r3 0 rfl
      go_simp
      refine hK _ _ ⟨rg.far (by simp; omega) _, by simp [came]⟩ ?_
      clear hK K f3 c3
      refine g_one (i := 8) rfl rfl (by kernel_rfl) fun K hK => ?_
      have r4' := r4.far (p := ⟨w.heap.size + 1 + 1 + 1, 0, none⟩) (by simp) (.slice (some ⟨g3, 0, none⟩) (s.1.length + 1) cap3)
      have f4 := r4'.frozen 0
      have c4 := Blk.at_ r4' 0 rfl
      go_simp
      refine hK _ _ ⟨(rg.far (by simp; omega) _).far (by simp; omega) _, by simp [came]⟩ (wpAnyG_done (by kernel_rfl) ?_ _)
      clear hK K f4 c4
      have hk5 := (heap_setCell_other (w4.setCell ⟨w.heap.size + 1 + 1 + 1, 0, none⟩ (.slice (some ⟨g3, 0, none⟩) (s.1.length + 1) cap3)) ⟨w.heap.size + 1 + 1 + 1 + 1, 0, none⟩ (w.heap.size + 1 + 1 + 1 + 1 + 1) (.int .i64 xm) (by simp)).trans (heap_setCell_other w4 ⟨w.heap.size + 1 + 1 + 1, 0, none⟩ (w.heap.size + 1 + 1 + 1 + 1 + 1) (.slice (some ⟨g3, 0, none⟩) (s.1.length + 1) cap3) (by show _ ≠ w.heap.size + 1 + 1 + 1; omega))
      have hKU2 : KeepU8 w4 ((w4.setCell ⟨w.heap.size + 1 + 1 + 1, 0, none⟩ (.slice (some ⟨g3, 0, none⟩) (s.1.length + 1) cap3)).setCell ⟨w.heap.size + 1 + 1 + 1 + 1, 0, none⟩ (.int .i64 xm)) := (KeepU8.set_ r3 (by decide) 0 _).trans (KeepU8.set_ r4' (by decide) 0 _)
      refine ⟨(hKO.trans (KeepsOthers.setCell _ _ _)).trans (KeepsOthers.setCell _ _ _), ⟨(hBw.setCell (by simp; omega) _).setCell (by simp; omega) _, hk5.trans k5'⟩, by simp [HE.out], ((hB.trans hBw).setCell (by simp; omega) _).setCell (by simp; omega) _, (k0.farN (by omega) _).farN (by omega) _, (k1.farN (by omega) _).farN (by omega) _, (k2.farN (by omega) _).farN (by omega) _, ⟨_, _, (r3.set_ 0 _).farN (by omega) _, ?_, hr4.keep hKU2⟩, r4'.set_ 0 _, by simpa using hz4, _, (k5.farN (by omega) _).farN (by omega) _⟩
      rw [List.length_append, List.length_singleton]
      exact own_far (own_far hown n3 _) n4 _
    · have hne : (((xe : Nat) : Int) != 0) = true := by rw [bne_iff_ne]; omega
      have HE := Lib.hid he
      clear he
      gi_wp2_with fail
      obtain ⟨A1, cp1, rfl⟩ := own_form ho
      refine wpIn_region_heldG [] (fun st W' => Blk W' g 52 #[.int .u8 (xk.toNat : Nat), .slice A2 xd.length cp2, .int .i64 xm, .int .i64 xe] ∧ Blk W' (w.heap.size + 1 + 1 + 1) 22 #[.slice A1 s.1.length cp1] ∧ Blk W' (w.heap.size + 1 + 1 + 1 + 1) 3 #[.int .i64 s.2]) (by kernel_rfl) (by kernel_rfl) (by rintro ⟨_, _, h⟩; exact h) ?_
      have hS := And.intro hgb.drew (And.intro q3.drew q4.drew)
      change wpAnyG _ _ _ _ _ _ 7 _ _ W.drew
      refine g_take (i := 0) rfl rfl (by kernel_rfl) (by kernel_rfl) (by kernel_rfl) (by kernel_rfl) (by kernel_rfl) (fun _ _ _ h => h) hS (fun L W hL hW => by have c := Blk.at_ hW.2.1 0 rfl; go_simp; rfl) ?_
      refine g_take (i := 1) rfl rfl (by kernel_rfl) (by kernel_rfl) (by kernel_rfl) (by kernel_rfl) (by kernel_rfl) (fun _ _ _ h => h) hS (fun L W hL hW => by have c := Blk.at_ hW.2.2 0 rfl; go_simp; rfl) ?_
      refine g_take (i := 2) rfl rfl (by kernel_rfl) (by kernel_rfl) (by kernel_rfl) (by kernel_rfl) (by kernel_rfl) (fun _ _ _ h => h) hS (fun L W hL hW => by go_simp; rfl) ?_
      refine g_take (i := 3) rfl rfl (by kernel_rfl) (by kernel_rfl) (by kernel_rfl) (by kernel_rfl) (by kernel_rfl) (fun _ _ _ h => h) hS (fun L W hL hW => by have c := Blk.at_ hW.1 3 rfl; go_simp; rfl) ?_
      refine g_one (i := 4) rfl rfl (by kernel_rfl) fun K hK => ?_
      have f0 := q0.drew.frozen 0
      have c0 := Blk.at_ q0.drew 0 rfl
      go_simp
      refine hK _ _ ⟨(hgb.farN (by omega) _).drew, (q3.farN (by omega) _).drew, (q4.farN (by omega) _).drew⟩ ?_
      clear hK K f0 c0
      have r1 := (q1.farN (b := w.heap.size) (o := 0) (by omega) (.slice A1 s.1.length cp1)).drew
      refine g_one (i := 5) rfl rfl (by kernel_rfl) fun K hK => ?_
      have f1 := r1.frozen 0
      have c1 := Blk.at_ r1 0 rfl
      go_simp
      refine hK _ _ ⟨((hgb.farN (by omega) _).farN (by omega) _).drew, ((q3.farN (by omega) _).farN (by omega) _).drew, ((q4.farN (by omega) _).farN (by omega) _).drew⟩ ?_
      clear hK K f1 c1
      have r2 := ((q2.farN (b := w.heap.size) (o := 0) (by omega) (.slice A1 s.1.length cp1)).farN (b := w.heap.size + 1) (o := 0) (by omega) (.int .i64 s.2)).drew
      refine g_one (i := 6) rfl rfl (by kernel_rfl) fun K hK => ?_
      have f2 := r2.frozen 0
      have c2 := Blk.at_ r2 0 rfl
      go_simp
      refine hK _ _ ⟨(((hgb.farN (by omega) _).farN (by omega) _).farN (by omega) _).drew, (((q3.farN (by omega) _).farN (by omega) _).farN (by omega) _).drew, (((q4.farN (by omega) _).farN (by omega) _).farN (by omega) _).drew⟩ (wpAnyG_done (by kernel_rfl) ?_ _)
      clear hK K f2 c2
      gi_wp2_with fail
      have hKU : KeepU8 W (((W.setCell ⟨w.heap.size, 0, none⟩ (.slice A1 s.1.length cp1)).setCell ⟨w.heap.size + 1, 0, none⟩ (.int .i64 s.2)).setCell ⟨w.heap.size + 1 + 1, 0, none⟩ (.int .i64 xe)).drew := ((KeepU8.set_ q0 (by decide) 0 _).trans (KeepU8.set_ (q1.farN (by omega) _) (by decide) 0 _)).trans (KeepU8.set_ ((q2.farN (by omega) _).farN (by omega) _) (by decide) 0 _)
      refine ⟨((KeepsOthers.setCell _ _ _).trans (KeepsOthers.setCell _ _ _)).trans ((KeepsOthers.setCell _ _ _).trans (KeepsOthers.drew _)), by simp [HE.out], (((hB.setCell (by simp) _).setCell (by simp) _).setCell (by simp; omega) _).drew, ⟨.slice A1 s.1.length cp1, xs, (((q0.set_ 0 _).farN (by omega) _).farN (by omega) _).drew, ?_, hr.keep hKU⟩, ((r1.set_ 0 _).farN (by omega) _), r2.set_ 0 _⟩
      exact own_far (own_far (own_far ho (own_blk_ne ho q0 (by decide)) _) (own_blk_ne ho q1 (by decide)) _) (own_blk_ne ho q2 (by decide)) _
  case done =>
    rintro D s W hD hall ⟨hB, q0, q1, q2, ⟨v, xs, q3, ho, hr⟩, q4, hq, cs5, q5⟩ hdef
    obtain ⟨A1, cp1, rfl⟩ := own_form ho
    gi_wp2_with fail
    refine wpIn_wide.2 (wp_region_heldN [] (fun st W' => Blk W' (w.heap.size + 1 + 1 + 1) 22 #[.slice A1 s.1.length cp1] ∧ Blk W' (w.heap.size + 1 + 1 + 1 + 1) 3 #[.int .i64 s.2]) (by kernel_rfl) ?_)
    have hS := And.intro q3.drew q4.drew
    change wpAnyG _ _ _ _ _ _ 5 _ _ W.drew
    refine g_take (i := 0) rfl rfl (by kernel_rfl) (by kernel_rfl) (by kernel_rfl) (by kernel_rfl) (by kernel_rfl) (fun _ _ _ h => h) hS (fun L W hL hW => by have c := Blk.at_ hW.1 0 rfl; go_simp; rfl) ?_
    refine g_take (i := 1) rfl rfl (by kernel_rfl) (by kernel_rfl) (by kernel_rfl) (by kernel_rfl) (by kernel_rfl) (fun _ _ _ h => h) hS (fun L W hL hW => by have c := Blk.at_ hW.2 0 rfl; go_simp; rfl) ?_
    refine g_one (i := 2) rfl rfl (by kernel_rfl) fun K hK => ?_
    have f0 := q0.drew.frozen 0
    have c0 := Blk.at_ q0.drew 0 rfl
    go_simp
    refine hK _ _ ⟨(q3.farN (by omega) _).drew, (q4.farN (by omega) _).drew⟩ ?_
    clear hK K f0 c0
    have r1 := (q1.farN (b := w.heap.size) (o := 0) (by omega) (.slice A1 s.1.length cp1)).drew
    refine g_one (i := 3) rfl rfl (by kernel_rfl) fun K hK => ?_
    have f1 := r1.frozen 0
    have c1 := Blk.at_ r1 0 rfl
    go_simp
    refine hK _ _ ⟨((q3.farN (by omega) _).farN (by omega) _).drew, ((q4.farN (by omega) _).farN (by omega) _).drew⟩ ?_
    clear hK K f1 c1
    have r2 := ((q2.farN (b := w.heap.size) (o := 0) (by omega) (.slice A1 s.1.length cp1)).farN (b := w.heap.size + 1) (o := 0) (by omega) (.int .i64 s.2)).drew
    refine g_one (i := 4) rfl rfl (by kernel_rfl) fun K hK => ?_
    have f2 := r2.frozen 0
    have c2 := Blk.at_ r2 0 rfl
    go_simp
    refine hK _ _ ⟨(((q3.farN (by omega) _).farN (by omega) _).farN (by omega) _).drew, (((q4.farN (by omega) _).farN (by omega) _).farN (by omega) _).drew⟩ (wpAnyG_done (by kernel_rfl) ?_ _)
    clear hK K f2 c2
    have hKU : KeepU8 W (((W.setCell ⟨w.heap.size, 0, none⟩ (.slice A1 s.1.length cp1)).setCell ⟨w.heap.size + 1, 0, none⟩ (.int .i64 s.2)).setCell ⟨w.heap.size + 1 + 1, 0, none⟩ (.int .i64 0)).drew := ((KeepU8.set_ q0 (by decide) 0 _).trans (KeepU8.set_ (q1.farN (by omega) _) (by decide) 0 _)).trans (KeepU8.set_ ((q2.farN (by omega) _).farN (by omega) _) (by decide) 0 _)
    refine noPanic_normal ?_
    gi_wp2_with fail
    have t0 := ((q0.set_ 0 (.slice A1 s.1.length cp1)).farN (b := w.heap.size + 1) (o := 0) (by omega) (.int .i64 s.2)).farN (b := w.heap.size + 1 + 1) (o := 0) (by omega) (.int .i64 0) |>.drew
    have t1 := (((q1.farN (b := w.heap.size) (o := 0) (by omega) (.slice A1 s.1.length cp1)).set_ 0 (.int .i64 s.2)).farN (b := w.heap.size + 1 + 1) (o := 0) (by omega) (.int .i64 0)).drew
    have t2 := (((q2.farN (b := w.heap.size) (o := 0) (by omega) (.slice A1 s.1.length cp1)).farN (b := w.heap.size + 1) (o := 0) (by omega) (.int .i64 s.2)).set_ 0 (.int .i64 0)).drew
    have ho' := own_far (own_far (own_far ho (p := ⟨w.heap.size, 0, none⟩) (own_blk_ne ho q0 (by decide)) (.slice A1 s.1.length cp1)) (p := ⟨w.heap.size + 1, 0, none⟩) (own_blk_ne ho q1 (by decide)) (.int .i64 s.2)) (p := ⟨w.heap.size + 1 + 1, 0, none⟩) (own_blk_ne ho q2 (by decide)) (.int .i64 0)
    have hdef' : (((W.setCell ⟨w.heap.size, 0, none⟩ (.slice A1 s.1.length cp1)).setCell ⟨w.heap.size + 1, 0, none⟩ (.int .i64 s.2)).setCell ⟨w.heap.size + 1 + 1, 0, none⟩ (.int .i64 0)).drew.heap[D]? = some (.deferred (some [])) :=
      (((KeepsOthers.setCell W ⟨w.heap.size, 0, none⟩ (.slice A1 s.1.length cp1)).trans (KeepsOthers.setCell _ ⟨w.heap.size + 1, 0, none⟩ (.int .i64 s.2))).trans ((KeepsOthers.setCell _ ⟨w.heap.size + 1 + 1, 0, none⟩ (.int .i64 0)).trans (KeepsOthers.drew _))).same _ _ hdef rfl
    have hB3 := (((hB.setCell (p := ⟨w.heap.size, 0, none⟩) (by simp) (.slice A1 s.1.length cp1)).setCell (p := ⟨w.heap.size + 1, 0, none⟩) (by simp) (.int .i64 s.2)).setCell (p := ⟨w.heap.size + 1 + 1, 0, none⟩) (by simp; omega) (.int .i64 0)).drew
    have hr' := hr.keep hKU
    replace ho' : World.ownsRow (((W.setCell ⟨w.heap.size, 0, none⟩ (.slice A1 s.1.length cp1)).setCell ⟨w.heap.size + 1, 0, none⟩ (.int .i64 s.2)).setCell ⟨w.heap.size + 1 + 1, 0, none⟩ (.int .i64 0)).drew w.heap.size 39 2 (.slice A1 s.1.length cp1) s.1.length xs := ho'
    clear hr ho r1 r2 q0 q1 q2 q3 q4 q5 hKU hS hdef hB hq
    generalize (((W.setCell ⟨w.heap.size, 0, none⟩ (.slice A1 s.1.length cp1)).setCell ⟨w.heap.size + 1, 0, none⟩ (.int .i64 s.2)).setCell ⟨w.heap.size + 1 + 1, 0, none⟩ (.int .i64 0)).drew = W4 at *
    have hT := Turns.putObj (B := w6.heap.size) (.deferred none) hD hdef' rfl
    have q0' := (Turns.blk hT t0).cell 0
    have q1' := (Turns.blk hT t1).cell 0
    have q2' := (Turns.blk hT t2).cell 0
    simp only [List.getElem?_toArray, List.getElem?_cons_zero, List.setIfInBounds_toArray, List.set_cons_zero] at q0' q1' q2'
    refine ⟨by simp, .inl ⟨_, _, rfl, run_takeDeferred hdef', ?_⟩⟩
    refine ⟨.tuple #[.slice A1 s.1.length cp1, .int .i64 s.2, .int .i64 0], by simp [results, Try.results11, go_sem, q0', q1', q2'], .slice A1 s.1.length cp1, xs, ?_, hB3.trans (hT.below.mono (by omega)), ?_, ?_⟩
    · rw [hall]; rfl
    · rw [hall]; exact own_turns hT ho'
    · rw [hall]; exact hr'.keep (KeepU8.turns hT)
  case stop =>
    rintro D s x W hD ⟨hx, hall⟩ ⟨hB, ⟨v, xs, q0, ho, hr⟩, q1, q2⟩ hdef
    gi_wp2_with fail
    have hT := Turns.putObj (B := w6.heap.size) (.deferred none) hD hdef rfl
    have q0' := (Turns.blk hT q0).cell 0
    have q1' := (Turns.blk hT q1).cell 0
    have q2' := (Turns.blk hT q2).cell 0
    simp only [List.getElem?_toArray, List.getElem?_cons_zero] at q0' q1' q2'
    refine ⟨by simp, .inl ⟨_, _, rfl, run_takeDeferred hdef, ?_⟩⟩
    refine ⟨.tuple #[v, .int .i64 s.2, .int .i64 x.e], by simp [results, Try.results11, go_sem, q0', q1', q2'], v, xs, ?_, hB.trans (hT.below.mono (by omega)), ?_, ?_⟩
    · rw [hall]
    · rw [hall]; exact own_turns hT ho
    · rw [hall]; exact hr.keep (KeepU8.turns hT)
end Go.Proofs.Ytboikajfcmgffaa.RecW
