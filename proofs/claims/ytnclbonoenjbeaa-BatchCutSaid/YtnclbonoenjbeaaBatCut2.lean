/-
  The walk of Cut.
-/
import Derived.Test.YtnclbonoenjbeaaBatCut
namespace Go.Proofs.Ytnclbonoenjbeaa.BatW
set_option linter.unusedVariables false
open Go.RowKit Go.Shelf Go.Proofs Go.Proofs.Ytnclbonoenjbeaa Go.Proofs.Ytnclbonoenjbeaa.Wd Go.Proofs.Ytnclbonoenjbeaa.RecW
open Go.Proofs.Ytnclbonoenjbeaa.Bat (B)
attribute [local go_sem] Oper.semAt_some

theorem chunk_any (A : Option Addr) (n c : Nat) (w : World) :
    Calls Try.prog 38 #[.slice A n c, .int .i64 4096] w fun e w' => e = .returned (.func (.func 49) #[] #[.pointer (some ⟨w.heap.size, 0, none⟩), .pointer (some ⟨w.heap.size + 1, 0, none⟩)]) ∧ (w.alloc (.cells #[.slice A n c] 24)).alloc (.cells #[.int .i64 4096] 3) = w' := by
  go_enter Try.func38, Try.ntmps38
  go_wp2
  go_ret
  exact ⟨rfl, rfl⟩
/-- The first chunks of n bytes of block G. -/
def chunks (G n j : Nat) : List Value := (List.range j).map fun i => chunkV G n (4096 * i)
theorem chunks_snoc (G n j : Nat) : chunks G n (j + 1) = chunks G n j ++ [chunkV G n (4096 * j)] := by unfold chunks; rw [List.range_succ, List.map_append]; rfl
theorem chunks_length (G n j : Nat) : (chunks G n j).length = j := by simp [chunks]
/-- Rows of at most 4096 bytes. -/
def cutN (b : List UInt8) : B := (List.range (parts b.length)).map fun i => (b.drop (4096 * i)).take 4096
def cut (b : List UInt8) : B := if b.length = 0 then [[]] else cutN b
/-- What Cut holds between two rounds: j chunks; the bytes in block G. -/
def CutHeld (w : World) (b6 G : Nat) (cur : Array Value) (n j : Nat) (W : World) : Prop :=
  Below w.heap.size w W ∧ (∃ v, Blk W w.heap.size 37 #[v] ∧ W.ownsRow b6 24 1 v j (chunks G n j)) ∧ (0 < n → Blk W G 5 cur)
theorem TurnsB.blk {B : Nat} {W W' : World} (h : Turns B W W') {g : Nat} {t : TypeId} {cs : Array Value} (hg : Blk W g t cs) : Blk W' g t cs := h.cells g _ hg rfl
theorem own_turnsB {B B' : Nat} {W W' : World} (h : Turns B' W W') {e : TypeId} {size n : Nat} {v : Value} {xs : List Value} (ho : W.ownsRow B e size v n xs) : W'.ownsRow B e size v n xs :=
  own_keep ho fun g hg => by obtain ⟨_, cs, hc⟩ := own_row ho hg; exact (h.cells g _ hc rfl).trans hc.symm
theorem CutHeld.turns {w W W' : World} {b6 G : Nat} {cur : Array Value} {n j : Nat} (h : CutHeld w b6 G cur n j W) {B : Nat} (hB : w.heap.size ≤ B) (ht : Turns B W W') : CutHeld w b6 G cur n j W' := by
  obtain ⟨h1, ⟨v, h2, h3⟩, h4⟩ := h
  exact ⟨h1.trans (ht.below.mono hB), ⟨v, TurnsB.blk ht h2, own_turnsB ht h3⟩, fun h => TurnsB.blk ht (h4 h)⟩
/-- What Cut answers. -/
def CutOut (w : World) (b : List UInt8) (e : Ending) (w' : World) : Prop :=
  ∃ v xs, e = .returned v ∧ Below w.heap.size w w' ∧ w'.ownsRow w.heap.size 24 1 v (cut b).length xs ∧ (b.length = 0 → xs = [.slice none 0 0]) ∧
    (0 < b.length → ∃ G cur, w.heap.size ≤ G ∧ Blk w' G 5 cur ∧ cur.toList.take b.length = bs b ∧ xs = chunks G b.length (parts b.length))
theorem cut_length {b : List UInt8} (h : 0 < b.length) : (cut b).length = parts b.length := by unfold cut cutN; rw [if_neg (by omega)]; simp

theorem own_blk0 {w : World} {base : Nat} {e : TypeId} {A : Option Addr} {n c : Nat} {xs : List Value} (h : w.ownsRow base e 1 (.slice A n c) n xs) : ∃ G cur, 0 < n → A = some ⟨G, 0, none⟩ ∧ base ≤ G ∧ Blk w G e cur ∧ cur.toList.take n = xs := by
  rcases h.2 with ⟨h, h0⟩ | ⟨g, cap, cur, h, hg, hh, _, _, _, ht⟩
  · exact ⟨0, #[], fun hn => by simp only [Value.slice.injEq] at h; omega⟩
  · simp only [Value.slice.injEq] at h
    refine ⟨g, cur, fun hn => ⟨h.1, hg, hh, ?_⟩⟩
    rw [← ht, Nat.mul_one]
set_option maxRecDepth 100000 in
set_option maxHeartbeats 4000000 in
theorem cut_any (A : Option Addr) (c : Nat) (b : List UInt8) (n : Nat) (hn : n = b.length) (hnc : n ≤ c) (hcm : n ≤ 1000000) (w : World) (hI : Bytes w w.heap.size A b) :
    Calls Try.prog 23 #[.slice A n c] w (CutOut w b) := by
  have HN := Lib.hid hn
  refine (callsIn_wide (n := 10)).1 ?_
  refine callsIn_of_wp_marks Try.func23 rfl trivial ?_ rfl
  simp only [Try.ntmps23, List.size_toArray, List.length_cons, List.length_nil, Nat.reduceAdd, Nat.reduceSub, Array.replicate_succ, Array.replicate_zero, List.push_toArray, List.append_toArray, List.nil_append, List.cons_append]
  have z0 := Blk.new_ w 37 #[.slice none 0 0] rfl
  have hB0 : Below w.heap.size w (w.alloc (.cells #[.slice none 0 0] 37)) := (Below.refl _ w).alloc (Nat.le_refl _) _
  have hI0 := hI.grow hB0
  have HC := Lib.hid (clone_any A c b n hn (by omega) _ hI0)
  clear hI0 hn
  gi_wp2_with fail
  refine ⟨trivial, ?_⟩
  refine (callsIn_wide.2 HC.out).mono ?_
  rintro e w1 ⟨v1, rfl, hown, hb1⟩
  obtain ⟨A1, c1, rfl, hc1, -, -⟩ := own_bytes hown
  have hcm1 := RecW.own_cap hown
  have z1 := z0.below hb1 z0.lt
  have hB1 := hB0.trans (hb1.mono hB0.size)
  have HOW := Lib.hid hown
  clear HC z0 hb1 hown hB0
  gi_wp2_with fail
  refine ⟨trivial, ?_⟩
  refine (callsIn_wide.2 (chunk_any A1 n c1 w1)).mono ?_
  rintro e w2 ⟨rfl, rfl⟩
  gi_wp2_with fail
  have q1 := (Blk.new_ w1 24 #[.slice A1 n c1] rfl).alloc (.cells #[.int .i64 4096] 3)
  have q2 := Blk.new_ (w1.alloc (.cells #[.slice A1 n c1] 24)) 3 #[.int .i64 4096] (n := w1.heap.size + 1) (by simp)
  have hb2 : Below w1.heap.size w1 ((w1.alloc (.cells #[.slice A1 n c1] 24)).alloc (.cells #[.int .i64 4096] 3)) := ((Below.refl _ w1).alloc (Nat.le_refl _) _).alloc (by simp) _
  have z2 := z1.below hb2 z1.lt
  have hB2 := hB1.trans (hb2.mono hB1.size)
  have HOW2 := Lib.hid (own_belowT HOW.out hb2)
  obtain ⟨G, cur, hG⟩ := own_blk0 HOW2.out
  have h0 : CutHeld w (w1.heap.size + 2) G cur n 0 ((w1.alloc (.cells #[.slice A1 n c1] 24)).alloc (.cells #[.int .i64 4096] 3)) := ⟨hB2, ⟨_, z2, own_nil _ _ _⟩, fun h => (hG h).2.2.1⟩
  have hsz : ((w1.alloc (.cells #[.slice A1 n c1] 24)).alloc (.cells #[.int .i64 4096] 3)).heap.size = w1.heap.size + 2 := by simp
  have HG := Lib.hid hG
  have hzw := hB1.size
  have hzs : w.heap.size + 1 ≤ w1.heap.size := z1.lt
  have HGW : Hid (0 < n → w.heap.size ≤ G) := Lib.hid fun h => by have := (hG h).2.1; simp at this; omega
  clear HOW HOW2 z1 z2 hb2 hB1 hB2 hG hI
  generalize (w1.alloc (.cells #[.slice A1 n c1] 24)).alloc (.cells #[.int .i64 4096] 3) = w6 at *
  refine range_ev (gf := 49) (lb := #[.pointer (some ⟨w1.heap.size, 0, none⟩), .pointer (some ⟨w1.heap.size + 1, 0, none⟩)]) rfl (enters_of Try.func49 (by kernel_rfl) rfl)
    (fun x : Nat => #[chunkV G n (4096 * x)]) (fun _ => rfl) (fun s x => s + 1) 0 (fun s x W => x = s ∧ 4096 * s < n) (fun x => true)
    (fun W W' => Below w.heap.size W W' ∧ W'.heap[w1.heap.size]? = W.heap[w1.heap.size]? ∧ W'.heap[w1.heap.size + 1]? = W.heap[w1.heap.size + 1]?) (fun h k => ⟨h.1.trans k.1, k.2.1.trans h.2.1, k.2.2.trans h.2.2⟩) ?kb
    (fun s => s = parts n) (fun s x => True) ?seq (fun j W => CutHeld w (w1.heap.size + 2) G cur n j W ∧ Blk W w1.heap.size 24 #[.slice A1 n c1] ∧ Blk W (w1.heap.size + 1) 3 #[.int .i64 4096]) (fun _ _ _ => False) (fun s W W' h ht => ⟨h.1.turns (by omega) ht, TurnsB.blk ht h.2.1, TurnsB.blk ht h.2.2⟩) (fun s x W W' h ht => h) (fun s x W W' h ht => h) ⟨h0, q1, q2⟩
    (fun s x a' W => a' = { tmps := #[.slice A n c, undef, .slice none 0 0, .pointer (some ⟨w.heap.size, 0, none⟩), chunkV G n (4096 * x), .slice A n c, .slice A1 n c1, .func (.func 49) #[] #[.pointer (some ⟨w1.heap.size, 0, none⟩), .pointer (some ⟨w1.heap.size + 1, 0, none⟩)], chunkV G n (4096 * x), undef, undef, undef, undef, undef, undef, undef, undef, undef], defers := [] })
    (fun s x a' W W' h ht => h) ?assign ?body ?done ?stop
  case kb =>
    intro W l o o' hl ho hc
    exact ⟨(Turns.putObj o' (by omega) ho hc).below, World.putObj_heap_other (by omega), World.putObj_heap_other (by omega)⟩
  case seq =>
    intro l J Jx W hT hJ hY hj0
    have hl1 : Blk W w1.heap.size 24 #[.slice A1 n c1] := TurnsB.blk hT q1
    have hl2 : Blk W (w1.heap.size + 1) 3 #[.int .i64 4096] := TurnsB.blk hT q2
    refine (chunk1_in l w1.heap.size (w1.heap.size + 1) w.heap.size G A1 c1 n hc1 (by omega) hcm1 (fun h => (HG.out h).1) J (fun j W h => hJ _ _ _ h (Below.refl _ _).drew) ?_ W (by have := hT.below.size; omega) hl1 hl2 hj0).mono ?_
    · intro j W1 hj he
      refine (hY j j W1 hj ⟨rfl, he⟩).mono ?_
      rintro en W2 (⟨h1, _, h3, h4, h5, h6⟩ | ⟨h1, h2, h3⟩)
      · exact ⟨h1, h3, h4, h5, h6⟩
      · cases h2
    · rintro en W2 ⟨hv, h1⟩
      exact ⟨hv, .inl ⟨_, rfl, h1⟩⟩
  case assign =>
    intro l s x W K hH hE hK
    have HK := Lib.hid hK
    have HE := Lib.hid hE
    clear hK hE
    gi_wp2
    exact HK.out _ _ (KeepsOthers.refl _) ⟨Below.refl _ _, rfl, rfl⟩ hH HE.out rfl
  case body =>
    rintro l s x a' W hH ⟨rfl, hE⟩ rfl
    obtain ⟨⟨hB, ⟨v, q0, ho⟩, hG0⟩, p1, p2⟩ := hH
    obtain ⟨i0, hi0, hz0, hz1, hz2⟩ := info_parts infoSl
    obtain ⟨Av, cp1, rfl⟩ := own_form ho
    have c0 : W.cell? ⟨w.heap.size, 0, none⟩ = some (.slice Av x cp1) := Blk.at_ q0 0 rfl
    have hBs := hB.size
    obtain ⟨m, hm⟩ : ∃ m, m = min 4096 (n - 4096 * x) := ⟨_, rfl⟩
    obtain ⟨y, hy⟩ : ∃ y, y = 4096 * x := ⟨_, rfl⟩
    have hcv : chunkV G n (4096 * x) = .slice (some ⟨G, y, none⟩) m m := by rw [hm, hy]; rfl
    rw [hcv]
    have HCV := Lib.hid hcv
    have HSN := Lib.hid (chunks_snoc G n x)
    rw [hcv] at HSN
    have hxn : x ≤ 1000000 := by omega
    have hW2 : w1.heap.size + 2 ≤ W.heap.size := p2.lt
    clear hE hcv hm hy
    gi_wp2_with (gi_at_builtin; refine wpListIn_append_lies _ rfl (.tmp 9) (.tmp 11) _ rfl (w1.heap.size + 2) 24 i0 _ 1 24 Try.underlying37 hi0 hz0 hz1 hz2 rfl (by omega) _ x _ rfl (ho.alloc _) ⟨W.heap.size, 0, none⟩ 1 1 [.slice (some ⟨G, y, none⟩) m m] rfl rfl (World.news_of_block (heap_alloc_new W _)) (by intro u hu; simp at hu; subst hu; rfl) (by omega) (by unfold maxLen; omega) (by omega) (by simp; omega) (W.heap.size + 1) (by simp) ?_)
    intro g cap w2 hown2 hgrow _ _
    have hne := own_blk_ne ho q0 (by decide)
    have q3 := (q0.alloc (.cells #[.slice (some ⟨G, y, none⟩) m m] 24)).grown hgrow hne.symm
    have hrow := fun (k : Nat) hk => own_row (ho.alloc (.cells #[.slice (some ⟨G, y, none⟩) m m] 24)) (g := k) hk
    have hB2 := ((Below.refl w.heap.size W).alloc hBs (.cells #[.slice (some ⟨G, y, none⟩) m m] 24)).grown hgrow (by simp; omega) (fun k hk => by have := (hrow k hk).1; omega)
    have hKO : KeepsOthers W w2 := (KeepsOthers.alloc W _).trans (KeepsOthers.of_grownBy hgrow fun j o hj ho' => by
      obtain ⟨_, cs, hb⟩ := hrow j hj
      have := hb.out.symm.trans ho'
      cases this; rfl)
    have hG2 : 0 < n → Blk w2 G 5 cur := fun h => ((hG0 h).alloc _).grown hgrow (fun e => by
      obtain ⟨_, cs, hb⟩ := hrow G e.symm
      exact Blk.ne_ hb ((hG0 h).alloc _) (by decide) rfl)
    have c2 : w2.cell? ⟨w.heap.size, 0, none⟩ = some (.slice Av x cp1) := Blk.at_ q3 0 rfl
    have f2 := q3.frozen 0
    have n2 := own_blk_ne hown2 q3 (by decide)
    have R1 : Hid (World.ownsRow (w2.setCell ⟨w.heap.size, 0, none⟩ (.slice (some ⟨g, 0, none⟩) (x + 1) cap)) (w1.heap.size + 2) 24 1 (.slice (some ⟨g, 0, none⟩) (x + 1) cap) (x + 1) (chunks G n (x + 1))) := Lib.hid (by
      rw [HSN.out]
      exact own_far hown2 n2 _)
    have hne1 : (Value.slice Av x cp1).ownBlock ≠ some w1.heap.size := fun e => by
      have := (own_row ho e).1; omega
    have p1' : Blk w2 w1.heap.size 24 #[.slice A1 n c1] := (p1.alloc _).grown hgrow hne1.symm
    have p2' : Blk w2 (w1.heap.size + 1) 3 #[.int .i64 4096] := (p2.alloc _).grown hgrow (fun e => by
      obtain ⟨_, cs, hb⟩ := hrow _ e.symm
      exact Blk.ne_ hb (p2.alloc _) (by decide) rfl)
    have hneG : ∀ h : 0 < n, G ≠ w.heap.size := fun h e => by subst e; exact Blk.ne_ (hG2 h) q3 (by decide) rfl
    clear hgrow hrow hown2 ho q0 c0 hne hne1 hG0
    gi_wp2
    exact ⟨hKO.trans (KeepsOthers.setCell _ _ _), ⟨hB2.setCell (Nat.le_refl _) _, ((p1'.farN (by omega) _).out.trans p1.out.symm), ((p2'.farN (by omega) _).out.trans p2.out.symm)⟩, rfl, ⟨hB.trans (hB2.setCell (Nat.le_refl _) _), ⟨_, q3.set_ 0 _, R1.out⟩, fun h => (hG2 h).farN (hneG h) _⟩, p1'.farN (by omega) _, p2'.farN (by omega) _⟩
  case done =>
    rintro D s W hD rfl ⟨⟨hB, ⟨v, q0, ho⟩, hG0⟩, p1, p2⟩ hdef
    obtain ⟨Av, cp1, rfl⟩ := own_form ho
    have c0 : W.cell? ⟨w.heap.size, 0, none⟩ = some (.slice Av (parts n) cp1) := Blk.at_ q0 0 rfl
    by_cases h0 : n = 0
    · have hp : parts n = 0 := by unfold parts; omega
      rw [hp] at c0
      have hcut : cut b = [[]] := by unfold cut; rw [if_pos (by have := HN.out; omega)]
      have HCUT := Lib.hid hcut
      clear hp hcut
      have hlt : D < W.heap.size := (Array.getElem?_eq_some_iff.1 hdef).1
      have hdef2 : (W.alloc (.cells #[.slice none 0 0] 24)).heap[D]? = some (.deferred (some [])) := (Below.heap_alloc W _ D hlt).trans hdef
      have hT := Turns.putObj (B := w6.heap.size) (.deferred none) hD hdef2 rfl
      have q3 := Blk.new_ W 24 #[.slice none 0 0] rfl
      have hba : Below w.heap.size W (W.alloc (.cells #[.slice none 0 0] 24)) := (Below.refl _ W).alloc hB.size _
      have HF : Hid (CutOut w b (.returned (.slice (some ⟨W.heap.size, 0, none⟩) 1 1)) ((W.alloc (.cells #[.slice none 0 0] 24)).putObj D (.deferred none))) := Lib.hid (by
        refine ⟨_, [.slice none 0 0], rfl, (hB.trans hba).trans (hT.below.mono (by omega)), ?_, fun _ => rfl, fun h => by have := HN.out; omega⟩
        rw [HCUT.out]
        exact own_turnsB hT (q3.own hB.size 1 (by decide) (by simp [maxLen])))
      have HD2 := Lib.hid hdef2
      clear hT q3 hba hdef2 hdef hlt h0
      gi_wp2_with fail
      obtain ⟨v', h1, h2⟩ : ∃ v, Value.slice (some ⟨W.heap.size, 0, none⟩) 1 1 = v ∧ CutOut w b (.returned v) ((W.alloc (.cells #[.slice none 0 0] 24)).putObj D (.deferred none)) := ⟨_, rfl, HF.out⟩
      refine ⟨by simp, .inl ⟨_, _, rfl, run_takeDeferred HD2.out, ?_⟩⟩
      exact ⟨.slice (some ⟨W.heap.size, 0, none⟩) 1 1, by simp [results, Try.results23, go_sem], HF.out⟩
    · have u1 : ¬ ((parts n : Nat) : Int) = 0 := by unfold parts; omega
      have hT := Turns.putObj (B := w6.heap.size) (.deferred none) hD hdef rfl
      have hb0 : 0 < b.length := by have := HN.out; omega
      have HF : Hid (CutOut w b (.returned (.slice Av (parts n) cp1)) (W.putObj D (.deferred none))) := Lib.hid (by
        refine ⟨_, chunks G n (parts n), rfl, hB.trans (hT.below.mono (by omega)), ?_, fun h => by omega, fun _ => ⟨G, cur, HGW.out (by omega), TurnsB.blk hT (hG0 (by omega)), ?_, by rw [HN.out]⟩⟩
        · rw [cut_length hb0, ← HN.out]
          exact own_turnsB hT (own_base ho (by omega))
        · rw [← HN.out]; exact (HG.out (by omega)).2.2.2)
      clear hT hb0 h0
      generalize parts n = m at *
      gi_wp2_with fail
      refine ⟨by simp, .inl ⟨_, _, rfl, run_takeDeferred hdef, ?_⟩⟩
      exact ⟨.slice Av m cp1, by simp [results, Try.results23, go_sem], HF.out⟩
  case stop =>
    rintro D s x W hD _ h _
    exact h.elim
end Go.Proofs.Ytnclbonoenjbeaa.BatW
