/-
  The walks of Deep and Over.
-/
import Derived.Test.YtcdjhafpnfgnlaaScopeWalks5
namespace Go.Proofs.Ytcdjhafpnfgnlaa.ScW
set_option linter.unusedVariables false
open Go.RowKit Go.Shelf Go.Proofs Go.Proofs.Ytcdjhafpnfgnlaa Go.Proofs.Ytcdjhafpnfgnlaa.Wd
open Go.Proofs.Ytcdjhafpnfgnlaa.Sc (N own flow rightAt right chain place chainI deep over below owned)
attribute [local go_sem] Oper.semAt_some

def DeepHeld (w : World) (pre : List Nat) (W : World) : Prop := Below w.heap.size w W ∧ Blk W w.heap.size 3 #[.int .i64 ((pre.length : Int) + 1)]
theorem DeepHeld.turns {w W W' : World} {pre : List Nat} (h : DeepHeld w pre W) {B : Nat} (hB : w.heap.size ≤ B) (ht : Turns B W W') : DeepHeld w pre W' :=
  ⟨h.1.trans (ht.below.mono hB), Turns.blk ht h.2⟩
theorem chainI_length {ns : List N} {i : Int} : (chainI ns i).length ≤ ns.length := by
  unfold chainI
  cases hp : place ns i
  · exact Nat.zero_le _
  · rw [if_pos rfl]
    have := Sc.chain_length ns i.toNat
    unfold place at hp; simp at hp; omega

set_option maxRecDepth 100000 in
set_option maxHeartbeats 4000000 in
theorem deep_any (A : Option Addr) (c : Nat) (ns : List N) (n : Nat) (hn : n = ns.length) (hnc : n ≤ c) (hcm : n ≤ 1000000000000) (hr : right ns = true) (i : Int) (w : World) (hI : Nodes w w.heap.size A ns) :
    Calls Try.prog 14 #[.slice A n c, .int .i64 i] w fun e w' => e = .returned (.int .i64 (deep ns i : Nat)) ∧ Below w.heap.size w w' := by
  have HN := Lib.hid hn
  have HLEN : Hid ((chainI ns i).length ≤ n) := Lib.hid (by rw [hn]; exact chainI_length)
  clear hn
  cases hp : place ns i
  · have hd : Hid (deep ns i = 0) := Lib.hid (by unfold deep; rw [hp]; rfl)
    go_enter Try.func14, Try.ntmps14
    go_wp2_with fail
    refine (place_any A c ns n HN.out i w).mono ?_
    rintro e w1 ⟨rfl, rfl⟩
    rw [hp]
    go_wp2
    go_ret
    exact ⟨by rw [hd.out]; rfl, Below.refl _ _⟩
  have hd : Hid ((deep ns i : Nat) = (chainI ns i).length + 1) := Lib.hid (by unfold deep chainI; rw [hp]; rfl)
  refine (callsIn_wide (n := 10)).1 ?_
  refine callsIn_of_wp_marks Try.func14 rfl trivial ?_ rfl
  simp only [Try.ntmps14, List.size_toArray, List.length_cons, List.length_nil, Nat.reduceAdd, Nat.reduceSub, Array.replicate_succ, Array.replicate_zero, List.push_toArray, List.append_toArray, List.nil_append, List.cons_append]
  gi_wp2_with fail
  refine ⟨trivial, ?_⟩
  refine (callsIn_wide.2 (place_any A c ns n HN.out i w)).mono ?_
  rintro e w1 ⟨rfl, rfl⟩
  rw [hp]
  clear hp
  gi_wp2_with fail
  refine ⟨trivial, ?_⟩
  refine (callsIn_wide.2 (up_any A n c i _)).mono ?_
  rintro e w1 ⟨rfl, rfl⟩
  gi_wp2_with fail
  have z0 := ((Blk.new_ w 3 #[.int .i64 1] rfl).alloc (.cells #[.slice A n c] 23)).alloc (.cells #[.int .i64 i] 3)
  have z1 := (Blk.new_ (w.alloc (.cells #[.int .i64 1] 3)) 23 #[.slice A n c] (n := w.heap.size + 1) (by simp)).alloc (.cells #[.int .i64 i] 3)
  have z2 := Blk.new_ ((w.alloc (.cells #[.int .i64 1] 3)).alloc (.cells #[.slice A n c] 23)) 3 #[.int .i64 i] (n := w.heap.size + 1 + 1) (by simp)
  have hB0 : Below w.heap.size w (((w.alloc (.cells #[.int .i64 1] 3)).alloc (.cells #[.slice A n c] 23)).alloc (.cells #[.int .i64 i] 3)) := (((Below.refl _ w).alloc (Nat.le_refl _) _).alloc (by simp) _).alloc (by simp; omega) _
  have hsz : (((w.alloc (.cells #[.int .i64 1] 3)).alloc (.cells #[.slice A n c] 23)).alloc (.cells #[.int .i64 i] 3)).heap.size = w.heap.size + 3 := by simp
  have h0 : DeepHeld w [] (((w.alloc (.cells #[.int .i64 1] 3)).alloc (.cells #[.slice A n c] 23)).alloc (.cells #[.int .i64 i] 3)) := ⟨hB0, z0⟩
  generalize (((w.alloc (.cells #[.int .i64 1] 3)).alloc (.cells #[.slice A n c] 23)).alloc (.cells #[.int .i64 i] 3)) = w6 at *
  refine range_ev (gf := 28) (lb := #[.pointer (some ⟨w.heap.size + 1, 0, none⟩), .pointer (some ⟨w.heap.size + 1 + 1, 0, none⟩)]) rfl (enters_of Try.func28 (by kernel_rfl) rfl)
    (fun x : Nat => #[.int .i64 x]) (fun _ => rfl) (fun s x => s ++ [x]) [] (fun s x W => ∃ r, chainI ns i = s ++ x :: r) (fun x => true)
    (fun W W' => Below w.heap.size W W' ∧ W'.heap[w.heap.size + 1]? = W.heap[w.heap.size + 1]? ∧ W'.heap[w.heap.size + 1 + 1]? = W.heap[w.heap.size + 1 + 1]?) (fun h k => ⟨h.1.trans k.1, k.2.1.trans h.2.1, k.2.2.trans h.2.2⟩) ?kb
    (fun s => s = chainI ns i) (fun s x => True) ?seq (DeepHeld w) (fun _ _ _ => False) (fun s W W' h ht => h.turns (by omega) ht) (fun s x W W' h ht => h) (fun s x W W' h ht => h) h0
    (fun s x a' W => a' = { tmps := #[.slice A n c, .int .i64 i, undef, undef, .int .i64 0, .pointer (some ⟨w.heap.size, 0, none⟩), .slice A n c, .int .i64 i, .bool true, .bool false, .slice A n c, .int .i64 i, .func (.func 28) #[] #[.pointer (some ⟨w.heap.size + 1, 0, none⟩), .pointer (some ⟨w.heap.size + 1 + 1, 0, none⟩)], .int .i64 x, undef, undef, undef], defers := [] })
    (fun s x a' W W' h ht => h) ?assign ?body ?done ?stop
  case kb =>
    intro W l o o' hl ho hc
    exact ⟨(Turns.putObj o' (by omega) ho hc).below, World.putObj_heap_other (by omega), World.putObj_heap_other (by omega)⟩
  case seq =>
    intro l J Jx W hT hJ hY hj0
    have hBW := hB0.trans (hT.below.mono (by omega))
    refine (up1_in l (w.heap.size + 1) (w.heap.size + 1 + 1) w.heap.size A c ns n HN.out hnc (by omega) hr i J Jx ?_ W hBW.size (Turns.blk hT z1) (Turns.blk hT z2) (hI.below hBW) hj0).mono ?_
    · intro pre j W1 hj he
      refine (hY pre j W1 hj he).mono ?_
      rintro en W2 (⟨h1, _, h3, h4, h5, h6⟩ | ⟨h1, h2, h3⟩)
      · exact .inl ⟨h1, h3, h4, h5, h6⟩
      · cases h2
    · rintro en W2 ⟨hv, (h1 | ⟨pre, j, r, h1, h2⟩)⟩
      · exact ⟨hv, .inl ⟨_, rfl, h1⟩⟩
      · exact ⟨hv, .inr ⟨pre, j, trivial, h2⟩⟩
  case assign =>
    intro l s x W K hH hE hK
    have HK := Lib.hid hK
    clear hK
    gi_wp2
    exact HK.out _ _ (KeepsOthers.refl _) ⟨Below.refl _ _, rfl, rfl⟩ hH hE (by simp)
  case body =>
    rintro l s x a' W ⟨hB, q0⟩ ⟨r, hE⟩ rfl
    have hsl : s.length < n := by
      have := HLEN.out
      rw [hE, List.length_append, List.length_cons] at this
      omega
    have c0 : W.cell? ⟨w.heap.size, 0, none⟩ = some (.int .i64 ((s.length : Int) + 1)) := Blk.at_ q0 0 rfl
    have f0 := q0.frozen 0
    have R1 : Hid (((s ++ [x]).length : Int) = (s.length : Int) + 1) := Lib.hid (by simp)
    clear hE
    gi_wp2
    exact ⟨KeepsOthers.setCell _ _ _, ⟨(Below.refl w.heap.size W).setCell (p := ⟨w.heap.size, 0, none⟩) (Nat.le_refl _) _, heap_setCell_other _ _ _ _ (by simp), heap_setCell_other _ _ _ _ (by show _ ≠ w.heap.size; omega)⟩, rfl, hB.setCell (p := ⟨w.heap.size, 0, none⟩) (Nat.le_refl _) _, by rw [R1.out]; exact q0.set_ 0 _⟩
  case done =>
    rintro D s W hD rfl ⟨hB, q0⟩ hdef
    have c0 : W.cell? ⟨w.heap.size, 0, none⟩ = some (.int .i64 (((chainI ns i).length : Int) + 1)) := Blk.at_ q0 0 rfl
    gi_wp2_with fail
    have hT := Turns.putObj (B := w6.heap.size) (.deferred none) hD hdef rfl
    refine ⟨by simp, .inl ⟨_, _, rfl, run_takeDeferred hdef, ?_⟩⟩
    refine ⟨.int .i64 (((chainI ns i).length : Int) + 1), by simp [results, Try.results14, go_sem], by rw [hd.out]; rfl, hB.trans (hT.below.mono (by omega))⟩
  case stop =>
    rintro D s x W hD _ h _
    exact h.elim

def OverHeld (w : World) (a : Int) (pre : List Nat) (W : World) : Prop := Below w.heap.size w W ∧ Blk W w.heap.size 3 #[.int .i64 a] ∧ Blk W (w.heap.size + 1) 4 #[.bool false] ∧ RowKit.Hid (∀ j ∈ pre, (j : Int) ≠ a)
def OverStop (w : World) (a : Int) (pre : List Nat) (x : Nat) (W : World) : Prop := Below w.heap.size w W ∧ Blk W (w.heap.size + 1) 4 #[.bool true] ∧ (x : Int) = a
theorem OverHeld.turns {w W W' : World} {a : Int} {pre : List Nat} (h : OverHeld w a pre W) {B : Nat} (hB : w.heap.size ≤ B) (ht : Turns B W W') : OverHeld w a pre W' :=
  ⟨h.1.trans (ht.below.mono hB), Turns.blk ht h.2.1, Turns.blk ht h.2.2.1, h.2.2.2⟩
theorem OverStop.turns {w W W' : World} {a : Int} {pre : List Nat} {x : Nat} (h : OverStop w a pre x W) {B : Nat} (hB : w.heap.size ≤ B) (ht : Turns B W W') : OverStop w a pre x W' :=
  ⟨h.1.trans (ht.below.mono hB), Turns.blk ht h.2.1, h.2.2⟩
set_option maxRecDepth 100000 in
set_option maxHeartbeats 4000000 in
theorem over_any (A : Option Addr) (c : Nat) (ns : List N) (n : Nat) (hn : n = ns.length) (hnc : n ≤ c) (hcm : n ≤ 1000000000000) (hr : right ns = true) (a b : Int) (w : World) (hI : Nodes w w.heap.size A ns) :
    Calls Try.prog 21 #[.slice A n c, .int .i64 a, .int .i64 b] w fun e w' => e = .returned (.bool (over ns a b)) ∧ Below w.heap.size w w' := by
  have HN := Lib.hid hn
  clear hn
  refine (callsIn_wide (n := 10)).1 ?_
  refine callsIn_of_wp_marks Try.func21 rfl trivial ?_ rfl
  simp only [Try.ntmps21, List.size_toArray, List.length_cons, List.length_nil, Nat.reduceAdd, Nat.reduceSub, Array.replicate_succ, Array.replicate_zero, List.push_toArray, List.append_toArray, List.nil_append, List.cons_append]
  gi_wp2_with fail
  refine ⟨trivial, ?_⟩
  refine (callsIn_wide.2 (up_any A n c b _)).mono ?_
  rintro e w1 ⟨rfl, rfl⟩
  gi_wp2_with fail
  have z0 := (((Blk.new_ w 3 #[.int .i64 a] rfl).alloc (.cells #[.bool false] 4)).alloc (.cells #[.slice A n c] 23)).alloc (.cells #[.int .i64 b] 3)
  have z1 := ((Blk.new_ (w.alloc (.cells #[.int .i64 a] 3)) 4 #[.bool false] (n := w.heap.size + 1) (by simp)).alloc (.cells #[.slice A n c] 23)).alloc (.cells #[.int .i64 b] 3)
  have z2 := (Blk.new_ ((w.alloc (.cells #[.int .i64 a] 3)).alloc (.cells #[.bool false] 4)) 23 #[.slice A n c] (n := w.heap.size + 1 + 1) (by simp)).alloc (.cells #[.int .i64 b] 3)
  have z3 := Blk.new_ (((w.alloc (.cells #[.int .i64 a] 3)).alloc (.cells #[.bool false] 4)).alloc (.cells #[.slice A n c] 23)) 3 #[.int .i64 b] (n := w.heap.size + 1 + 1 + 1) (by simp)
  have hB0 : Below w.heap.size w ((((w.alloc (.cells #[.int .i64 a] 3)).alloc (.cells #[.bool false] 4)).alloc (.cells #[.slice A n c] 23)).alloc (.cells #[.int .i64 b] 3)) := ((((Below.refl _ w).alloc (Nat.le_refl _) _).alloc (by simp) _).alloc (by simp; omega) _).alloc (by simp; omega) _
  have hsz : ((((w.alloc (.cells #[.int .i64 a] 3)).alloc (.cells #[.bool false] 4)).alloc (.cells #[.slice A n c] 23)).alloc (.cells #[.int .i64 b] 3)).heap.size = w.heap.size + 4 := by simp
  have h0 : OverHeld w a [] ((((w.alloc (.cells #[.int .i64 a] 3)).alloc (.cells #[.bool false] 4)).alloc (.cells #[.slice A n c] 23)).alloc (.cells #[.int .i64 b] 3)) := ⟨hB0, z0, z1, Lib.hid (fun j hj => by cases hj)⟩
  generalize ((((w.alloc (.cells #[.int .i64 a] 3)).alloc (.cells #[.bool false] 4)).alloc (.cells #[.slice A n c] 23)).alloc (.cells #[.int .i64 b] 3)) = w6 at *
  refine range_ev (gf := 28) (lb := #[.pointer (some ⟨w.heap.size + 1 + 1, 0, none⟩), .pointer (some ⟨w.heap.size + 1 + 1 + 1, 0, none⟩)]) rfl (enters_of Try.func28 (by kernel_rfl) rfl)
    (fun x : Nat => #[.int .i64 x]) (fun _ => rfl) (fun s x => s ++ [x]) [] (fun s x W => ∃ r, chainI ns b = s ++ x :: r) (fun x => !((x : Int) == a))
    (fun W W' => Below w.heap.size W W' ∧ W'.heap[w.heap.size + 1 + 1]? = W.heap[w.heap.size + 1 + 1]? ∧ W'.heap[w.heap.size + 1 + 1 + 1]? = W.heap[w.heap.size + 1 + 1 + 1]?) (fun h k => ⟨h.1.trans k.1, k.2.1.trans h.2.1, k.2.2.trans h.2.2⟩) ?kb
    (fun s => s = chainI ns b) (fun s x => ∃ r, chainI ns b = s ++ x :: r) ?seq (OverHeld w a) (OverStop w a) (fun s W W' h ht => h.turns (by omega) ht) (fun s x W W' h ht => h.turns (by omega) ht) (fun s x W W' h ht => h) h0
    (fun s x a' W => a' = { tmps := #[.slice A n c, .int .i64 a, .int .i64 b, undef, .pointer (some ⟨w.heap.size, 0, none⟩), undef, .pointer (some ⟨w.heap.size + 1, 0, none⟩), .int .i64 x, .slice A n c, .int .i64 b, .func (.func 28) #[] #[.pointer (some ⟨w.heap.size + 1 + 1, 0, none⟩), .pointer (some ⟨w.heap.size + 1 + 1 + 1, 0, none⟩)], .int .i64 x, undef, undef, undef], defers := [] })
    (fun s x a' W W' h ht => h) ?assign ?body ?done ?stop
  case kb =>
    intro W l o o' hl ho hc
    exact ⟨(Turns.putObj o' (by omega) ho hc).below, World.putObj_heap_other (by omega), World.putObj_heap_other (by omega)⟩
  case seq =>
    intro l J Jx W hT hJ hY hj0
    have hBW := hB0.trans (hT.below.mono (by omega))
    refine (up1_in l (w.heap.size + 1 + 1) (w.heap.size + 1 + 1 + 1) w.heap.size A c ns n HN.out hnc (by omega) hr b J Jx ?_ W hBW.size (Turns.blk hT z2) (Turns.blk hT z3) (hI.below hBW) hj0).mono ?_
    · intro pre j W1 hj he
      refine (hY pre j W1 hj he).mono ?_
      rintro en W2 (⟨h1, _, h3, h4, h5, h6⟩ | ⟨h1, h2, h3⟩)
      · exact .inl ⟨h1, h3, h4, h5, h6⟩
      · exact .inr ⟨h1, h3⟩
    · rintro en W2 ⟨hv, (h1 | ⟨pre, j, r, h1, h2⟩)⟩
      · exact ⟨hv, .inl ⟨_, rfl, h1⟩⟩
      · exact ⟨hv, .inr ⟨pre, j, ⟨r, h1⟩, h2⟩⟩
  case assign =>
    intro l s x W K hH hE hK
    have HK := Lib.hid hK
    clear hK
    gi_wp2
    exact HK.out _ _ (KeepsOthers.refl _) ⟨Below.refl _ _, rfl, rfl⟩ hH hE (by simp)
  case body =>
    rintro l s x a' W ⟨hB, q0, q1, hne⟩ ⟨r, hE⟩ rfl
    have c0 : W.cell? ⟨w.heap.size, 0, none⟩ = some (.int .i64 a) := Blk.at_ q0 0 rfl
    have c1 : W.cell? ⟨w.heap.size + 1, 0, none⟩ = some (.bool false) := Blk.at_ q1 0 rfl
    have f1 := q1.frozen 0
    clear hE
    by_cases hx : (x : Int) = a
    · have u1 : ((x : Int) == a) = true := by simpa using hx
      have HX := Lib.hid hx
      clear hx
      gi_wp2
      exact ⟨KeepsOthers.setCell _ _ _, by dsimp only; rw [u1]; rfl, hB.setCell (p := ⟨w.heap.size + 1, 0, none⟩) (by simp) _, q1.set_ 0 _, HX.out⟩
    · have u1 : ((x : Int) == a) = false := by simpa using hx
      have HX : Hid (∀ j ∈ s ++ [x], (j : Int) ≠ a) := Lib.hid (fun j hj => by
        rcases List.mem_append.1 hj with h | h
        · exact hne.out j h
        · rw [List.mem_singleton.1 h]; exact hx)
      clear hx
      gi_wp2
      exact ⟨KeepsOthers.refl _, ⟨Below.refl _ _, rfl, rfl⟩, by dsimp only; rw [u1]; rfl, hB, q0, q1, HX⟩
  case done =>
    rintro D s W hD rfl ⟨hB, q0, q1, hne⟩ hdef
    have hov : Hid (over ns a b = false) := Lib.hid (by
      unfold over
      rw [Bool.eq_false_iff]; intro h
      obtain ⟨o, ho, he⟩ := List.any_eq_true.1 h
      exact hne.out o ho (by simpa using he))
    have c1 : W.cell? ⟨w.heap.size + 1, 0, none⟩ = some (.bool false) := Blk.at_ q1 0 rfl
    have f1 := q1.frozen 0
    have q1' := q1.set_ 0 (.bool false)
    have hB' := hB.setCell (p := ⟨w.heap.size + 1, 0, none⟩) (by simp) (.bool false)
    have hdef' : (W.setCell ⟨w.heap.size + 1, 0, none⟩ (.bool false)).heap[D]? = some (.deferred (some [])) := (KeepsOthers.setCell W ⟨w.heap.size + 1, 0, none⟩ (.bool false)).same _ _ hdef rfl
    clear hne
    gi_wp2_with fail
    generalize W.setCell ⟨w.heap.size + 1, 0, none⟩ (.bool false) = W4 at *
    have hT := Turns.putObj (B := w6.heap.size) (.deferred none) hD hdef' rfl
    have q2 : World.cell? (W4.putObj D (.deferred none)) ⟨w.heap.size + 1, 0, none⟩ = some (.bool false) := Blk.at_ (Turns.blk hT q1') 0 rfl
    refine ⟨by simp, .inl ⟨_, _, rfl, run_takeDeferred hdef', ?_⟩⟩
    refine ⟨.bool false, by simp [results, Try.results21, go_sem, q2], by rw [hov.out], hB'.trans (hT.below.mono (by omega))⟩
  case stop =>
    rintro D s x W hD ⟨r, hE⟩ ⟨hB, q1, hx⟩ hdef
    have hov : Hid (over ns a b = true) := Lib.hid (by
      unfold over
      rw [List.any_eq_true]
      exact ⟨x, by rw [hE]; simp, by simpa using hx⟩)
    clear hE hx
    gi_wp2_with fail
    have hT := Turns.putObj (B := w6.heap.size) (.deferred none) hD hdef rfl
    have q2 : World.cell? (W.putObj D (.deferred none)) ⟨w.heap.size + 1, 0, none⟩ = some (.bool true) := Blk.at_ (Turns.blk hT q1) 0 rfl
    refine ⟨by simp, .inl ⟨_, _, rfl, run_takeDeferred hdef, ?_⟩⟩
    refine ⟨.bool true, by simp [results, Try.results21, go_sem, q2], by rw [hov.out], hB.trans (hT.below.mono (by omega))⟩
end Go.Proofs.Ytcdjhafpnfgnlaa.ScW
