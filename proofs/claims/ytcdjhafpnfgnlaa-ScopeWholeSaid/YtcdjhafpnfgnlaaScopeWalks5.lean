/-
  The walks of slices.AppendSeq and Collect over up's iterator; Chain.
-/
import Derived.Test.YtcdjhafpnfgnlaaScopeWalks4
import Derived.Test.YtcdjhafpnfgnlaaWordsRoundApp
namespace Go.Proofs.Ytcdjhafpnfgnlaa.ScW
set_option linter.unusedVariables false
open Go.RowKit Go.Shelf Go.Proofs Go.Proofs.Ytcdjhafpnfgnlaa Go.Proofs.Ytcdjhafpnfgnlaa.Wd
open Go.Proofs.Ytcdjhafpnfgnlaa.Sc (N own flow rightAt right chain place chainI deep over below owned)
attribute [local go_sem] Oper.semAt_some

theorem Turns.blk {B : Nat} {W W' : World} (h : Turns B W W') {g : Nat} {t : TypeId} {cs : Array Value} (hg : Blk W g t cs) : Blk W' g t cs := h.cells g _ hg rfl
theorem own_turns {B B' : Nat} {W W' : World} (h : Turns B' W W') {e : TypeId} {size n : Nat} {v : Value} {xs : List Value} (ho : W.ownsRow B e size v n xs) : W'.ownsRow B e size v n xs :=
  own_keep ho fun g hg => by obtain ⟨_, cs, hc⟩ := own_row ho hg; exact (h.cells g _ hc rfl).trans hc.symm

/-- The sequence's box between two rounds. -/
def SeqHeld (w : World) (pre : List Nat) (W : World) : Prop :=
  Below w.heap.size w W ∧ ∃ v, Blk W w.heap.size 22 #[v] ∧ W.ownsRow w.heap.size 3 1 v pre.length (iv (toI pre))
theorem SeqHeld.turns {w W W' : World} {pre : List Nat} (h : SeqHeld w pre W) {B : Nat} (hB : w.heap.size ≤ B) (ht : Turns B W W') : SeqHeld w pre W' := by
  obtain ⟨h1, v, h2, h3⟩ := h
  exact ⟨h1.trans (ht.below.mono hB), v, Turns.blk ht h2, own_turns ht h3⟩

set_option maxRecDepth 100000 in
set_option maxHeartbeats 4000000 in
theorem appendseq_any (B1 B2 : Nat) (A : Option Addr) (c : Nat) (ns : List N) (n : Nat) (hn : n = ns.length) (hnc : n ≤ c) (hcm : n ≤ 1000000000000) (hr : right ns = true) (i : Int) (w : World)
    (hB1 : Blk w B1 23 #[.slice A n c]) (hB2 : Blk w B2 3 #[.int .i64 i]) (hI : Nodes w w.heap.size A ns) :
    Calls Try.prog 27 #[.slice none 0 0, .func (.func 28) #[] #[.pointer (some ⟨B1, 0, none⟩), .pointer (some ⟨B2, 0, none⟩)]] w (IntsOut w (toI (chainI ns i))) := by
  have hlen : (chainI ns i).length ≤ n := by
    unfold chainI
    cases hp : place ns i
    · exact Nat.zero_le _
    · rw [if_pos rfl]
      have := Sc.chain_length ns i.toNat
      unfold place at hp; simp at hp; omega
  have HLEN := Lib.hid hlen
  have b1lt := hB1.lt
  have b2lt := hB2.lt
  clear hlen
  refine (callsIn_wide (n := 10)).1 ?_
  refine callsIn_of_wp_marks Try.func27 rfl trivial ?_ rfl
  simp only [Try.ntmps27, List.size_toArray, List.length_cons, List.length_nil, Nat.reduceAdd, Nat.reduceSub, Array.replicate_succ, Array.replicate_zero, List.push_toArray, List.append_toArray, List.nil_append, List.cons_append]
  gi_wp2_with fail
  have z0 := Blk.new_ w 22 #[.slice none 0 0] rfl
  have hB0 : Below w.heap.size w (w.alloc (.cells #[.slice none 0 0] 22)) := (Below.refl _ w).alloc (Nat.le_refl _) _
  have h0 : SeqHeld w [] (w.alloc (.cells #[.slice none 0 0] 22)) := ⟨hB0, _, z0, own_nil _ _ _⟩
  have hsz : (w.alloc (.cells #[.slice none 0 0] 22)).heap.size = w.heap.size + 1 := by simp
  generalize w.alloc (.cells #[.slice none 0 0] 22) = w6 at *
  refine range_ev (gf := 28) (lb := #[.pointer (some ⟨B1, 0, none⟩), .pointer (some ⟨B2, 0, none⟩)]) rfl (enters_of Try.func28 (by kernel_rfl) rfl)
    (fun x : Nat => #[.int .i64 x]) (fun _ => rfl) (fun s x => s ++ [x]) [] (fun s x W => ∃ r, chainI ns i = s ++ x :: r) (fun x => true)
    (fun W W' => Below w.heap.size W W') (fun h k => h.trans k) ?kb
    (fun s => s = chainI ns i) (fun s x => True) ?seq (SeqHeld w) (fun _ _ _ => False) (fun s W W' h ht => h.turns (by omega) ht) (fun s x W W' h ht => h) (fun s x W W' h ht => h) h0
    (fun s x a' W => a' = { tmps := #[.slice none 0 0, .func (.func 28) #[] #[.pointer (some ⟨B1, 0, none⟩), .pointer (some ⟨B2, 0, none⟩)], .pointer (some ⟨w.heap.size, 0, none⟩), undef, .slice none 0 0, .int .i64 x, .func (.func 28) #[] #[.pointer (some ⟨B1, 0, none⟩), .pointer (some ⟨B2, 0, none⟩)], .int .i64 x, undef, undef, undef, undef, undef], defers := [] })
    (fun s x a' W W' h ht => h) ?assign ?body ?done ?stop
  case kb =>
    intro W l o o' hl ho hc
    exact (Turns.putObj o' (by omega) ho hc).below
  case seq =>
    intro l J Jx W hT hJ hY hj0
    have hBW := hB0.trans (hT.below.mono (by omega))
    have hTc := hT.below
    refine (up1_in l B1 B2 w.heap.size A c ns n hn hnc (by omega) hr i J Jx ?_ W hBW.size (hB1.below hBW b1lt) (hB2.below hBW b2lt) (hI.below hBW) hj0).mono ?_
    · intro pre j W1 hj he
      refine (hY pre j W1 hj he).mono ?_
      rintro en W2 (⟨h1, _, h3, h4⟩ | ⟨h1, h2, h3⟩)
      · exact .inl ⟨h1, h3, h4, h4.block _ b1lt, h4.block _ b2lt⟩
      · cases h2
    · rintro en W2 ⟨hv, (h1 | ⟨pre, j, r, h1, h2⟩)⟩
      · exact ⟨hv, .inl ⟨_, rfl, h1⟩⟩
      · exact ⟨hv, .inr ⟨pre, j, trivial, h2⟩⟩
  case assign =>
    intro l s x W K hH hE hK
    have HK := Lib.hid hK
    clear hK
    gi_wp2
    exact HK.out _ _ (KeepsOthers.refl _) (Below.refl _ _) hH hE rfl
  case body =>
    rintro l s x a' W hH ⟨r, hE⟩ rfl
    obtain ⟨hB, v, q0, ho⟩ := hH
    obtain ⟨i0, hi0, hz0, hz1, hz2⟩ := info_parts infoInt
    have hsl : s.length < n := by
      have := HLEN.out
      rw [hE, List.length_append, List.length_cons] at this
      omega
    obtain ⟨A1, cp1, rfl⟩ := own_form ho
    have c0 : W.cell? ⟨w.heap.size, 0, none⟩ = some (.slice A1 s.length cp1) := Blk.at_ q0 0 rfl
    have hBs := hB.size
    clear hE
    gi_wp2_with (gi_at_builtin; refine wpListIn_append_lies _ rfl (.tmp 8) (.tmp 10) _ rfl w.heap.size 3 i0 _ 1 8 Try.underlying22 hi0 hz0 hz1 hz2 rfl (by omega) _ s.length _ rfl (ho.alloc _) ⟨W.heap.size, 0, none⟩ 1 1 [.int .i64 (x : Int)] rfl rfl (World.news_of_block (heap_alloc_new W _)) (by intro u hu; simp at hu; subst hu; rfl) (by omega) (by unfold maxLen; omega) (by omega) (by simp; omega) (W.heap.size + 1) (by simp) ?_)
    intro g cap w2 hown2 hgrow _ _
    have hne := own_blk_ne ho q0 (by decide)
    have q2 := (q0.alloc (.cells #[.int .i64 (x : Int)] 3)).grown hgrow hne.symm
    have hrow := fun (k : Nat) hk => own_row (ho.alloc (.cells #[.int .i64 (x : Int)] 3)) (g := k) hk
    have hB2 := ((Below.refl w.heap.size W).alloc hBs (.cells #[.int .i64 (x : Int)] 3)).grown hgrow (by simp; omega) (fun k hk => (hrow k hk).1)
    have hKO : KeepsOthers W w2 := (KeepsOthers.alloc W _).trans (KeepsOthers.of_grownBy hgrow fun j o hj ho' => by
      obtain ⟨_, cs, hb⟩ := hrow j hj
      have := hb.out.symm.trans ho'
      cases this; rfl)
    have c2 : w2.cell? ⟨w.heap.size, 0, none⟩ = some (.slice A1 s.length cp1) := Blk.at_ q2 0 rfl
    have f2 := q2.frozen 0
    have n2 := own_blk_ne hown2 q2 (by decide)
    have R1 : Hid (World.ownsRow (w2.setCell ⟨w.heap.size, 0, none⟩ (.slice (some ⟨g, 0, none⟩) (s.length + 1) cap)) w.heap.size 3 1 (.slice (some ⟨g, 0, none⟩) (s.length + 1) cap) (s ++ [x]).length (iv (toI (s ++ [x])))) := Lib.hid (by
      rw [toI_append, iv_append, List.length_append, List.length_singleton]
      exact own_far hown2 n2 _)
    clear hgrow hrow hown2 ho q0 c0 hne
    gi_wp2
    exact ⟨hKO.trans (KeepsOthers.setCell _ _ _), hB2.setCell (Nat.le_refl _) _, rfl, hB.trans (hB2.setCell (Nat.le_refl _) _), _, q2.set_ 0 _, R1.out⟩
  case done =>
    rintro D s W hD rfl ⟨hB, v, q0, ho⟩ hdef
    obtain ⟨A1, cp1, rfl⟩ := own_form ho
    have c0 : W.cell? ⟨w.heap.size, 0, none⟩ = some (.slice A1 (chainI ns i).length cp1) := Blk.at_ q0 0 rfl
    gi_wp2_with fail
    have hT := Turns.putObj (B := w6.heap.size) (.deferred none) hD hdef rfl
    refine ⟨by simp, .inl ⟨_, _, rfl, run_takeDeferred hdef, ?_⟩⟩
    refine ⟨.slice A1 (chainI ns i).length cp1, by simp [results, Try.results27, go_sem], A1, cp1, by rw [toI_length], hB.trans (hT.below.mono (by omega)), ?_⟩
    rw [toI_length]
    exact own_turns hT ho
  case stop =>
    rintro D s x W hD _ h _
    exact h.elim

theorem collect_any (B1 B2 : Nat) (A : Option Addr) (c : Nat) (ns : List N) (n : Nat) (hn : n = ns.length) (hnc : n ≤ c) (hcm : n ≤ 1000000000000) (hr : right ns = true) (i : Int) (w : World)
    (hB1 : Blk w B1 23 #[.slice A n c]) (hB2 : Blk w B2 3 #[.int .i64 i]) (hI : Nodes w w.heap.size A ns) :
    Calls Try.prog 25 #[.func (.func 28) #[] #[.pointer (some ⟨B1, 0, none⟩), .pointer (some ⟨B2, 0, none⟩)]] w (IntsOut w (toI (chainI ns i))) := by
  go_enter Try.func25, Try.ntmps25
  go_wp2_with fail
  refine (appendseq_any B1 B2 A c ns n hn hnc hcm hr i w hB1 hB2 hI).mono ?_
  rintro e w1 ⟨A1, c1, rfl, hb, ho⟩
  go_wp2
  go_ret
  exact ⟨A1, c1, rfl, hb, ho⟩

theorem up_any (A : Option Addr) (n c : Nat) (i : Int) (w : World) :
    Calls Try.prog 26 #[.slice A n c, .int .i64 i] w fun e w' => e = .returned (.func (.func 28) #[] #[.pointer (some ⟨w.heap.size, 0, none⟩), .pointer (some ⟨w.heap.size + 1, 0, none⟩)]) ∧ (w.alloc (.cells #[.slice A n c] 23)).alloc (.cells #[.int .i64 i] 3) = w' := by
  go_enter Try.func26, Try.ntmps26
  go_wp2
  go_ret
  exact ⟨rfl, rfl⟩

theorem chain_any (A : Option Addr) (c : Nat) (ns : List N) (n : Nat) (hn : n = ns.length) (hnc : n ≤ c) (hcm : n ≤ 1000000000000) (hr : right ns = true) (i : Int) (w : World) (hI : Nodes w w.heap.size A ns) :
    Calls Try.prog 13 #[.slice A n c, .int .i64 i] w (IntsOut w (toI (chainI ns i))) := by
  have z1 := Blk.new_ w 23 #[.slice A n c] rfl
  have z2 := Blk.new_ (w.alloc (.cells #[.slice A n c] 23)) 3 #[.int .i64 i] (n := w.heap.size + 1) (by simp)
  have hB : Below w.heap.size w ((w.alloc (.cells #[.slice A n c] 23)).alloc (.cells #[.int .i64 i] 3)) := ((Below.refl _ w).alloc (Nat.le_refl _) _).alloc (by simp) _
  have z1' := z1.alloc (.cells #[.int .i64 i] 3)
  have HN := Lib.hid hn
  clear hn
  go_enter Try.func13, Try.ntmps13
  go_wp2_with fail
  refine (up_any A n c i w).mono ?_
  rintro e w1 ⟨rfl, rfl⟩
  go_wp2_with fail
  refine (collect_any w.heap.size (w.heap.size + 1) A c ns n HN.out hnc hcm hr i _ z1' z2 (hI.grow hB)).mono ?_
  rintro e w1 ⟨A1, c1, rfl, hb, ho⟩
  go_wp2
  go_ret
  exact ⟨A1, c1, rfl, hB.trans (hb.mono hB.size), own_base ho hB.size⟩
end Go.Proofs.Ytcdjhafpnfgnlaa.ScW
