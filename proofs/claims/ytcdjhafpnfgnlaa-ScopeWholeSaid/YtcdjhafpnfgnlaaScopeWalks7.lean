/-
  The walk of Below.
-/
import Derived.Laws.MakeOwn
import Derived.Test.YtcdjhafpnfgnlaaScopeWalks6
namespace Go.Proofs.Ytcdjhafpnfgnlaa.ScW
set_option linter.unusedVariables false
open Go.RowKit Go.Shelf Go.Proofs Go.Proofs.Ytcdjhafpnfgnlaa Go.Proofs.Ytcdjhafpnfgnlaa.Wd
open Go.Proofs.Ytcdjhafpnfgnlaa.Sc (N own flow rightAt right chain place chainI deep over below owned)

/-- The cells of bools. -/
def bv (l : List Bool) : List Value := l.map (.bool ·)
theorem bv_length (l : List Bool) : (bv l).length = l.length := by simp [bv]
theorem bv_get (l : List Bool) (j : Nat) (h : j < (bv l).length) : (bv l)[j] = .bool (l[j]'(by simpa [bv] using h)) := by simp [bv]
theorem bv_set (l : List Bool) (k : Nat) (x : Bool) : (bv l).set k (.bool x) = bv (l.set k x) := by simp [bv, List.map_set]
/-- Who is known to be below m when those ahead of k have been asked. -/
def inB (ns : List N) (m k : Nat) : List Bool := (List.range ns.length).map fun j => decide (j < k) && decide (m ∈ chain ns j)
theorem inB_length (ns : List N) (m k : Nat) : (inB ns m k).length = ns.length := by simp [inB]
theorem inB_get (ns : List N) (m k j : Nat) (hj : j < (inB ns m k).length) : (inB ns m k)[j] = (decide (j < k) && decide (m ∈ chain ns j)) := by simp [inB]
theorem inB_start (ns : List N) (m : Nat) : inB ns m (m + 1) = List.replicate ns.length false := by
  apply List.ext_getElem
  · rw [inB_length, List.length_replicate]
  · intro j h1 h2
    rw [inB_get, List.getElem_replicate]
    by_cases hj : j < m + 1
    · have : ¬ m ∈ chain ns j := fun h => by have := Sc.chain_lt ns j m h; omega
      simp [this]
    · simp [hj]
theorem inB_step {ns : List N} {m k : Nat} (hk : k < ns.length) : inB ns m (k + 1) = (inB ns m k).set k (decide (m ∈ chain ns k)) := by
  apply List.ext_getElem
  · rw [inB_length, List.length_set, inB_length]
  · intro j h1 h2
    rw [inB_get, List.getElem_set]
    by_cases hj : k = j
    · subst hj; simp
    · rw [if_neg hj, inB_get]
      have : decide (j < k + 1) = decide (j < k) := by rw [decide_eq_decide]; omega
      rw [this]

set_option maxHeartbeats 1000000 in
theorem below1_any (B1 B2 B3 gi : Nat) (A : Option Addr) (c : Nat) (ns : List N) (n : Nat) (hn : n = ns.length) (hnc : n ≤ c) (hcm : n ≤ 1000000000000) (hr : right ns = true) (m k : Nat) (hk : k < ns.length) (hmk : m < k) (w : World)
    (h1 : Blk w B1 23 #[.slice A n c]) (h2 : Blk w B2 3 #[.int .i64 m]) (h3 : Blk w B3 44 #[.slice (some ⟨gi, 0, none⟩) n n]) (h4 : Blk w gi 4 (bv (inB ns m k)).toArray) (hI : Nodes w w.heap.size A ns) :
    Calls Try.prog 24 #[.int .i64 k, .pointer (some ⟨B1, 0, none⟩), .pointer (some ⟨B2, 0, none⟩), .pointer (some ⟨B3, 0, none⟩)] w fun e w' => e = .returned (.bool (decide (m ∈ chain ns k))) ∧ w = w' := by
  have c1 : w.cell? ⟨B1, 0, none⟩ = some (.slice A n c) := Blk.at_ h1 0 rfl
  have c2 : w.cell? ⟨B2, 0, none⟩ = some (.int .i64 m) := Blk.at_ h2 0 rfl
  have c3 : w.cell? ⟨B3, 0, none⟩ = some (.slice (some ⟨gi, 0, none⟩) n n) := Blk.at_ h3 0 rfl
  obtain ⟨b1, o1, rfl, hb1, hc4⟩ := hI.own_at hk
  obtain ⟨r1, r2, _⟩ := Sc.right_at hr hk
  have hmem := Lib.hid (Sc.chain_mem r1 r2 m)
  have hkn : k < n := by omega
  have hcell : ∀ o : Nat, o < k → w.cell? ⟨gi, o, none⟩ = some (.bool (decide (m ∈ chain ns o))) := fun o ho => by
    rw [h4.cell]
    have hl : o < (bv (inB ns m k)).length := by rw [bv_length, inB_length]; omega
    rw [List.getElem?_toArray, List.getElem?_eq_getElem hl, bv_get, inB_get]
    simp [ho]
  have HC := Lib.hid hcell
  clear hcell h1 h2 h3 h4 hn hr
  obtain ⟨x, hx⟩ : ∃ x, x = own ns k := ⟨_, rfl⟩
  rw [← hx] at hc4 r1 r2 hmem
  clear hx
  by_cases e1 : x = m
  · have u1 : (x == (m : Int)) = true := by simpa using e1
    have HX : Hid (decide (m ∈ chain ns k) = true) := Lib.hid (by rw [decide_eq_true_iff]; exact hmem.out.2 (.inl e1))
    clear e1 hmem
    go_enter Try.func24, Try.ntmps24
    go_wp2
    go_ret
    exact ⟨by rw [HX.out]; rfl, rfl⟩
  have u1 : (x == (m : Int)) = false := by simpa using e1
  by_cases e2 : (m : Int) < x
  · obtain ⟨o, rfl⟩ : ∃ o : Nat, x = o := ⟨x.toNat, by omega⟩
    have u2 : decide ((m : Int) < (o : Int)) = true := by simpa using e2
    have u2' : decide (m < o) = true := by simp; omega
    have HX : Hid (decide (m ∈ chain ns k) = decide (m ∈ chain ns o)) := Lib.hid (by rw [decide_eq_decide, hmem.out]; simp [e2]; omega)
    have hco := HC.out o (by omega)
    have u3 : (o : Int) < (n : Int) := by omega
    have u4 : (0 : Int) ≤ (o : Int) := by omega
    clear e1 e2 hmem
    go_enter Try.func24, Try.ntmps24
    go_wp2
    go_ret
    exact ⟨by rw [HX.out]; rfl, rfl⟩
  · have u2 : decide ((m : Int) < x) = false := by simpa using e2
    have HX : Hid (decide (m ∈ chain ns k) = false) := Lib.hid (by
      rw [decide_eq_false_iff_not, hmem.out]
      rintro (h | ⟨h, _⟩)
      · exact e1 h
      · exact e2 h)
    clear e1 e2 hmem
    go_enter Try.func24, Try.ntmps24
    go_wp2
    go_ret
    exact ⟨by rw [HX.out]; rfl, rfl⟩

theorem infoBool : (Try.prog.info? 4).map (fun i => (i.zero, i.size, i.bytes)) = some (some (.bool false), 1, 1) := by kernel_rfl
theorem made_bools (n : Nat) : madeCells #[Value.bool false] n = (bv (List.replicate n false)).toArray := by
  apply Array.ext
  · simp [madeCells, bv]
  · intro i h1 h2
    simp [madeCells, bv, Nat.mod_one]
theorem below_fil {ns : List N} {m : Nat} (hm : m < ns.length) : below ns (m : Int) = fil (fun k => decide (m ∈ chain ns k)) ns.length := by
  unfold below fil
  rw [if_pos (Sc.place_nat hm)]
  apply List.filter_congr
  intro k hk
  exact Sc.over_nat (List.mem_range.1 hk)
/-- Nobody up to m is below m. -/
theorem fil_start (ns : List N) (m : Nat) : fil (fun k => decide (m ∈ chain ns k)) (m + 1) = [] := by
  unfold fil
  rw [List.filter_eq_nil_iff]
  intro j hj h
  have := Sc.chain_lt ns j m (by simpa using h)
  have := List.mem_range.1 hj
  omega
set_option maxRecDepth 100000 in
set_option maxHeartbeats 4000000 in
theorem below_any (A : Option Addr) (c : Nat) (ns : List N) (n : Nat) (hn : n = ns.length) (hnc : n ≤ c) (hcm : n ≤ 1000000000000) (hr : right ns = true) (i : Int) (w : World) (hI : Nodes w w.heap.size A ns) :
    Calls Try.prog 10 #[.slice A n c, .int .i64 i] w (IntsOut w (toI (below ns i))) := by
  have HN := Lib.hid hn
  clear hn
  have z1 := (Blk.new_ w 23 #[.slice A n c] rfl).alloc (.cells #[.int .i64 i] 3)
  have z2 := Blk.new_ (w.alloc (.cells #[.slice A n c] 23)) 3 #[.int .i64 i] (n := w.heap.size + 1) (by simp)
  have hB0 : Below w.heap.size w ((w.alloc (.cells #[.slice A n c] 23)).alloc (.cells #[.int .i64 i] 3)) := ((Below.refl _ w).alloc (Nat.le_refl _) _).alloc (by simp) _
  cases hp : place ns i
  · have hd : Hid (below ns i = []) := Lib.hid (by unfold below; rw [hp]; rfl)
    go_enter Try.func10, Try.ntmps10
    go_wp2_with fail
    refine (place_any A c ns n HN.out i _).mono ?_
    rintro e w1 ⟨rfl, rfl⟩
    rw [hp]
    go_wp2
    go_ret
    exact ⟨none, 0, by rw [hd.out]; rfl, hB0, by rw [hd.out]; exact own_nil _ _ _⟩
  obtain ⟨m, rfl⟩ : ∃ m : Nat, i = m := ⟨i.toNat, by unfold place at hp; simp at hp; omega⟩
  have hml : m < ns.length := by unfold place at hp; simp at hp; exact hp
  have hmn : m < n := by have := HN.out; omega
  obtain ⟨i0, hi0, hz0, hz1, hz2⟩ := info_parts infoInt
  obtain ⟨j0, hj0, hy0, hy1, hy2⟩ := info_parts infoBool
  have hmk : ∀ u : World, (Instr.makeSlice 44 (.int .i64 (n : Int)) (.int .i64 (n : Int))).run Try.prog u = .ok (.slice (some ⟨u.heap.size, 0, none⟩) n n) (u.alloc (.cells (bv (List.replicate n false)).toArray 4)) := fun u => by
    have h := run_make (P := Try.prog) u 44 4 j0 (.bool false) Try.underlying44 hj0 hy0 .i64 .i64 (n : Int) (n : Int) (by omega) (Int.le_refl _) (by rw [hy2]; omega) (by omega)
    rw [Int.toNat_natCast, hy1, Nat.mul_one] at h
    rw [h, ← made_bools]; rfl
  have hbf := Lib.hid (below_fil hml)
  have hst := Lib.hid (inB_start ns m)
  have hfs := Lib.hid (fil_start ns m)
  have HR := Lib.hid hr
  clear hr
  go_enter Try.func10, Try.ntmps10
  go_wp2_with fail
  refine (place_any A c ns n HN.out (m : Int) _).mono ?_
  rintro e w1 ⟨rfl, rfl⟩
  rw [hp]
  clear hp
  go_wp2
  have y1 := (z1.alloc (.cells (bv (List.replicate n false)).toArray 4)).alloc (.cells #[.slice (some ⟨w.heap.size + 1 + 1, 0, none⟩) n n] 44)
  have y2 := (z2.alloc (.cells (bv (List.replicate n false)).toArray 4)).alloc (.cells #[.slice (some ⟨w.heap.size + 1 + 1, 0, none⟩) n n] 44)
  have y3 := (Blk.new_ ((w.alloc (.cells #[.slice A n c] 23)).alloc (.cells #[.int .i64 m] 3)) 4 (bv (List.replicate n false)).toArray (n := w.heap.size + 1 + 1) (by simp)).alloc (.cells #[.slice (some ⟨w.heap.size + 1 + 1, 0, none⟩) n n] 44)
  have y4 := Blk.new_ (((w.alloc (.cells #[.slice A n c] 23)).alloc (.cells #[.int .i64 m] 3)).alloc (.cells (bv (List.replicate n false)).toArray 4)) 44 #[.slice (some ⟨w.heap.size + 1 + 1, 0, none⟩) n n] (n := w.heap.size + 1 + 1 + 1) (by simp)
  have hB4 := (hB0.alloc (by simp; omega) (.cells (bv (List.replicate n false)).toArray 4)).alloc (by simp; omega) (.cells #[.slice (some ⟨w.heap.size + 1 + 1, 0, none⟩) n n] 44)
  have hs4 : w.heap.size + 1 + 1 + 1 + 1 ≤ ((((w.alloc (.cells #[.slice A n c] 23)).alloc (.cells #[.int .i64 m] 3)).alloc (.cells (bv (List.replicate n false)).toArray 4)).alloc (.cells #[.slice (some ⟨w.heap.size + 1 + 1, 0, none⟩) n n] 44)).heap.size := by simp
  have y3' : Blk ((((w.alloc (.cells #[.slice A n c] 23)).alloc (.cells #[.int .i64 m] 3)).alloc (.cells (bv (List.replicate n false)).toArray 4)).alloc (.cells #[.slice (some ⟨w.heap.size + 1 + 1, 0, none⟩) n n] 44)) (w.heap.size + 1 + 1) 4 (bv (inB ns m (m + 1))).toArray := by rw [hst.out, ← HN.out]; exact y3
  generalize ((((w.alloc (.cells #[.slice A n c] 23)).alloc (.cells #[.int .i64 m] 3)).alloc (.cells (bv (List.replicate n false)).toArray 4)).alloc (.cells #[.slice (some ⟨w.heap.size + 1 + 1, 0, none⟩) n n] 44)) = W4 at *
  clear y3 z1 z2 hB0 hmk hst
  go_loopw [7, 8] (fun v o wr => ∃ k : Nat, m + 1 ≤ k ∧ k ≤ n ∧ o = .int .i64 k ∧ w.heap.size + 1 + 1 + 1 + 1 ≤ wr.heap.size ∧ wr.ownsRow (w.heap.size + 1 + 1 + 1 + 1) 3 1 v (fil (fun k => decide (m ∈ chain ns k)) k).length (iv (toI (fil (fun k => decide (m ∈ chain ns k)) k))) ∧ Below w.heap.size w wr ∧
    Blk wr w.heap.size 23 #[.slice A n c] ∧ Blk wr (w.heap.size + 1) 3 #[.int .i64 m] ∧ Blk wr (w.heap.size + 1 + 1 + 1) 44 #[.slice (some ⟨w.heap.size + 1 + 1, 0, none⟩) n n] ∧ Blk wr (w.heap.size + 1 + 1) 4 (bv (inB ns m k)).toArray) (fun _ o _ => n - (intOf o).toNat)
  case atStart => exact ⟨m + 1, Nat.le_refl _, hmn, by go_num, hs4, by rw [hfs.out]; exact own_nil _ _ _, hB4, y1, y2, y4, y3'⟩
  case round =>
    clear hB4 y1 y2 y4 y3' hfs hs4
    obtain ⟨k, hk1, hk2, rfl, hsz, hown, hB, q1, q2, q3, q4⟩ := hrel
    have c1 : wr.cell? ⟨w.heap.size, 0, none⟩ = some (.slice A n c) := Blk.at_ q1 0 rfl
    by_cases hlt : k < n
    · have hkl : k < ns.length := by have := HN.out; omega
      have i1 : (0 : Int) ≤ (k : Int) := by omega
      have i2 : (k : Int) < (n : Int) := by omega
      have hbound := fil_le (fun k => decide (m ∈ chain ns k)) k
      have hyes : m ∈ chain ns k → fil (fun k => decide (m ∈ chain ns k)) (k + 1) = fil (fun k => decide (m ∈ chain ns k)) k ++ [k] := fun h => fil_yes (by simpa using h)
      have hno : ¬ m ∈ chain ns k → fil (fun k => decide (m ∈ chain ns k)) (k + 1) = fil (fun k => decide (m ∈ chain ns k)) k := fun h => fil_no (by simpa using h)
      have HYES := Lib.hid hyes
      have HNO := Lib.hid hno
      clear hyes hno
      go_wp2_with fail
      refine wp_region_heldG [] (fun _ W => Blk W (w.heap.size + 1 + 1 + 1) 44 #[.slice (some ⟨w.heap.size + 1 + 1, 0, none⟩) n n]) (by kernel_rfl) ?_
      have hS := q3.drew
      change wpAnyG _ _ _ _ _ _ 7 _ _ wr.drew
      refine g_take (i := 0) rfl rfl (by kernel_rfl) (by kernel_rfl) (by kernel_rfl) (by kernel_rfl) (by kernel_rfl) (fun _ _ _ h => h) hS (fun L W hL hW => by have c0 := Blk.at_ hW 0 rfl; go_simp; rfl) ?_
      refine g_take (i := 1) rfl rfl (by kernel_rfl) (by kernel_rfl) (by kernel_rfl) (by kernel_rfl) (by kernel_rfl) (fun _ _ _ h => h) hS (fun L W hL hW => by go_simp; rfl) ?_
      refine g_take (i := 2) rfl rfl (by kernel_rfl) (by kernel_rfl) (by kernel_rfl) (by kernel_rfl) (by kernel_rfl) (fun _ _ _ h => h) hS (fun L W hL hW => by go_simp; rfl) ?_
      refine g_take (i := 3) rfl rfl (by kernel_rfl) (by kernel_rfl) (by kernel_rfl) (by kernel_rfl) (by kernel_rfl) (fun _ _ _ h => h) hS (fun L W hL hW => by go_simp; rfl) ?_
      refine g_one (i := 4) rfl rfl (by kernel_rfl) fun K hK => ?_
      go_simp
      refine Calls.mono (below1_any w.heap.size (w.heap.size + 1) (w.heap.size + 1 + 1 + 1) (w.heap.size + 1 + 1) A c ns n HN.out hnc hcm HR.out m k hkl (by omega) wr.drew q1.drew q2.drew q3.drew q4.drew (by exact (hI.below hB).more hB.size)) ?_
      rintro e w1 ⟨rfl, rfl⟩
      refine hK _ _ hS ?_
      clear hK K
      refine g_take (i := 5) rfl rfl (by kernel_rfl) (by kernel_rfl) (by kernel_rfl) (by kernel_rfl) (by kernel_rfl) (fun _ _ _ h => h) hS (fun L W hL hW => by go_simp; rfl) ?_
      refine g_one (i := 6) rfl rfl (by kernel_rfl) fun K hK => ?_
      have f4 := q4.drew.frozen k
      obtain ⟨v0, hv0⟩ : ∃ v0, World.cell? wr.drew ⟨w.heap.size + 1 + 1, k, none⟩ = some v0 := ⟨_, (q4.drew.cell k).trans (by rw [List.getElem?_toArray]; exact List.getElem?_eq_getElem (by rw [bv_length, inB_length]; exact hkl))⟩
      have q1' := (q1.farN (b := w.heap.size + 1 + 1) (o := k) (by omega) (.bool (decide (m ∈ chain ns k)))).drew
      have q2' := (q2.farN (b := w.heap.size + 1 + 1) (o := k) (by omega) (.bool (decide (m ∈ chain ns k)))).drew
      have q3' := (q3.farN (b := w.heap.size + 1 + 1) (o := k) (by omega) (.bool (decide (m ∈ chain ns k)))).drew
      have q4' : Blk (wr.setCell ⟨w.heap.size + 1 + 1, k, none⟩ (.bool (decide (m ∈ chain ns k)))).drew (w.heap.size + 1 + 1) 4 (bv (inB ns m (k + 1))).toArray := by
        have := (q4.set_ k (.bool (decide (m ∈ chain ns k)))).drew
        rw [inB_step hkl, ← bv_set]
        simpa using this
      have hown' : World.ownsRow (wr.setCell ⟨w.heap.size + 1 + 1, k, none⟩ (.bool (decide (m ∈ chain ns k)))).drew (w.heap.size + 1 + 1 + 1 + 1) 3 1 u7 (fil (fun k => decide (m ∈ chain ns k)) k).length (iv (toI (fil (fun k => decide (m ∈ chain ns k)) k))) := own_far hown (p := ⟨w.heap.size + 1 + 1, k, none⟩) (own_blk_ne hown q4 (by decide)) _
      have hB' := (hB.setCell (p := ⟨w.heap.size + 1 + 1, k, none⟩) (by simp; omega) (.bool (decide (m ∈ chain ns k)))).drew
      go_simp
      refine hK _ _ q3' (wpAnyG_done (by kernel_rfl) ?_ _)
      clear hK K f4 hv0 v0 hS q1 q2 q3 q4 hown hB
      have cin : World.cell? (wr.setCell ⟨w.heap.size + 1 + 1, k, none⟩ (.bool (decide (m ∈ chain ns k)))).drew ⟨w.heap.size + 1 + 1, k, none⟩ = some (.bool (decide (m ∈ chain ns k))) := by
        rw [q4'.cell, List.getElem?_toArray, List.getElem?_eq_getElem (by rw [bv_length, inB_length]; exact hkl), bv_get, inB_get]
        simp
      have c3 : World.cell? (wr.setCell ⟨w.heap.size + 1 + 1, k, none⟩ (.bool (decide (m ∈ chain ns k)))).drew ⟨w.heap.size + 1 + 1 + 1, 0, none⟩ = some (.slice (some ⟨w.heap.size + 1 + 1, 0, none⟩) n n) := Blk.at_ q3' 0 rfl
      have hbs : w.heap.size + 1 + 1 + 1 + 1 ≤ (wr.setCell ⟨w.heap.size + 1 + 1, k, none⟩ (.bool (decide (m ∈ chain ns k)))).drew.heap.size := by simpa using hsz
      generalize (wr.setCell ⟨w.heap.size + 1 + 1, k, none⟩ (.bool (decide (m ∈ chain ns k)))).drew = W2 at *
      clear hsz
      clear c1
      by_cases hin : m ∈ chain ns k
      · have hd : decide (m ∈ chain ns k) = true := decide_eq_true hin
        have HX := Lib.hid (HYES.out hin)
        rw [hd] at cin ⊢
        clear hin hd HYES HNO
        go_wp2_with (at_builtin; refine wpList_append_lies _ rfl (.tmp 35) (.tmp 37) _ rfl (w.heap.size + 1 + 1 + 1 + 1) 3 i0 _ 1 8 Try.underlying22 hi0 hz0 hz1 hz2 rfl (by omega) _ (fil (fun k => decide (m ∈ chain ns k)) k).length _ rfl (hown'.alloc _) ⟨W2.heap.size, 0, none⟩ 1 1 [.int .i64 (k : Int)] rfl rfl (World.news_of_block (heap_alloc_new W2 _)) (by intro u hu; simp at hu; subst hu; rfl) (by omega) (by unfold maxLen; omega) (by omega) (by simp; omega) (W2.heap.size + 1) (by simp) ?_)
        intro g cap w2 hown2 hgrow _ _
        have hrow := fun (j : Nat) hj => (own_row (hown'.alloc (.cells #[.int .i64 (k : Int)] 3)) (g := j) hj).1
        have hB2 := (hB'.alloc hB'.size (.cells #[.int .i64 (k : Int)] 3)).grown hgrow (by simp; omega) (fun j hj => by have := hrow j hj; omega)
        have k1 := (q1'.alloc (.cells #[.int .i64 (k : Int)] 3)).grown hgrow (fun h => by have := hrow _ h.symm; omega)
        have k2 := (q2'.alloc (.cells #[.int .i64 (k : Int)] 3)).grown hgrow (fun h => by have := hrow _ h.symm; omega)
        have k3 := (q3'.alloc (.cells #[.int .i64 (k : Int)] 3)).grown hgrow (fun h => by have := hrow _ h.symm; omega)
        have k4 := (q4'.alloc (.cells #[.int .i64 (k : Int)] 3)).grown hgrow (fun h => by have := hrow _ h.symm; omega)
        have hs2 : w.heap.size + 1 + 1 + 1 + 1 ≤ w2.heap.size := by have := hgrow.size; simp at this; omega
        have R1 : Hid (World.ownsRow w2 (w.heap.size + 1 + 1 + 1 + 1) 3 1 (.slice (some ⟨g, 0, none⟩) ((fil (fun k => decide (m ∈ chain ns k)) k).length + 1) cap) (fil (fun k => decide (m ∈ chain ns k)) (k + 1)).length (iv (toI (fil (fun k => decide (m ∈ chain ns k)) (k + 1))))) := Lib.hid (by
          rw [HX.out, List.length_append, toI_append, iv_append]; exact hown2)
        clear hgrow hown2 hown' hB' q1' q2' q3' q4' cin c3 hrow
        go_wp2
        go_roundw
        case rel => exact ⟨k + 1, by omega, by omega, by go_num, hs2, R1.out, hB2, k1, k2, k3, k4⟩
        case measure => simp [intOf]; omega
      · have hd : decide (m ∈ chain ns k) = false := decide_eq_false hin
        have HX := Lib.hid (HNO.out hin)
        rw [hd] at cin ⊢
        have R1 : Hid (World.ownsRow W2 (w.heap.size + 1 + 1 + 1 + 1) 3 1 u7 (fil (fun k => decide (m ∈ chain ns k)) (k + 1)).length (iv (toI (fil (fun k => decide (m ∈ chain ns k)) (k + 1))))) := Lib.hid (by rw [HX.out]; exact hown')
        clear hin hd HYES HNO hown'
        go_wp2
        go_roundw
        case rel => exact ⟨k + 1, by omega, by omega, by go_num, hbs, R1.out, hB', q1', q2', q3', q4'⟩
        case measure => simp [intOf]; omega
    · obtain rfl : k = n := by omega
      have R1 : Hid (World.ownsRow wr w.heap.size 3 1 u7 (below ns (m : Int)).length (iv (toI (below ns (m : Int))))) := Lib.hid (by rw [hbf.out, ← HN.out]; exact own_base hown (by omega))
      obtain ⟨A3, c3, rfl⟩ := own_form hown
      clear hown q2 q3 q4
      go_wp2
      go_ret
      have hl : (toI (below ns (m : Int))).length = (fil (fun k => decide (m ∈ chain ns k)) k).length := by rw [toI_length, hbf.out, ← HN.out]
      exact ⟨A3, c3, by rw [hl]; rfl, hB, by rw [hl]; have := R1.out; rw [hbf.out, ← HN.out] at this ⊢; exact this⟩
end Go.Proofs.Ytcdjhafpnfgnlaa.ScW
