/-
  The walk of ScopeGrows.
-/
import Derived.Test.YtcdjhafpnfgnlaaScopeRightWalk
import Derived.Test.YtcdjhafpnfgnlaaWordsMap
namespace Go.Proofs.Ytcdjhafpnfgnlaa.ScW
set_option linter.unusedVariables false
open Go.RowKit Go.Shelf Go.Maps Go.Proofs Go.Proofs.Ytcdjhafpnfgnlaa Go.Proofs.Ytcdjhafpnfgnlaa.Wd
open Go.Proofs.Ytcdjhafpnfgnlaa.Sc (N own flow rightAt right chain place chainI deep over below owned)

/-! ### plainly: one node more -/
theorem chain_app {ns : List N} {x : N} : ∀ {i : Nat}, i < ns.length → chain (ns ++ [x]) i = chain ns i := by
  intro i
  induction i using Nat.strongRecOn with
  | _ i ih =>
    intro hi
    rcases Int.lt_or_le (own ns i) 0 with h | h
    · rw [Sc.chain_none h, Sc.chain_none (by rw [own_app_left hi]; exact h)]
    · by_cases hlt : own ns i < i
      · rw [Sc.chain_some h hlt, Sc.chain_some (by rw [own_app_left hi]; exact h) (by rw [own_app_left hi]; exact hlt), own_app_left hi, ih _ (by omega) (by omega)]
      · rw [chain, dif_neg (by rw [own_app_left hi]; omega), chain, dif_neg (by omega)]
theorem chainI_app {ns : List N} {x : N} {i : Nat} (hi : i < ns.length) : chainI (ns ++ [x]) (i : Int) = chainI ns (i : Int) := by
  rw [chainI_nat hi, chainI_nat (by rw [List.length_append]; omega), chain_app hi]
theorem deep_app {ns : List N} {x : N} {i : Nat} (hi : i < ns.length) : deep (ns ++ [x]) (i : Int) = deep ns (i : Int) := by
  unfold deep
  rw [Sc.place_nat hi, Sc.place_nat (by rw [List.length_append]; omega), Int.toNat_natCast, chain_app hi]
theorem below_nat {ns : List N} {i : Nat} : below ns (i : Int) = (List.range ns.length).filter fun k => decide (i ∈ chain ns k) := by
  rw [below_all]
  unfold fil
  exact List.filter_congr fun k hk => Sc.over_nat (List.mem_range.1 hk)
theorem below_app {ns : List N} {x : N} {i : Nat} : below (ns ++ [x]) (i : Int) = below ns (i : Int) ++ (if i ∈ chain (ns ++ [x]) ns.length then [ns.length] else []) := by
  rw [below_nat, below_nat, List.length_append, List.length_singleton, List.range_succ, List.filter_append]
  congr 1
  · exact List.filter_congr fun k hk => by rw [chain_app (List.mem_range.1 hk)]
  · by_cases h : i ∈ chain (ns ++ [x]) ns.length
    · simp [h]
    · simp [h]
theorem below_last {ns : List N} {i : Nat} (h : ns.length ≤ i + 1) : below ns (i : Int) = [] := by
  rw [below_nat, List.filter_eq_nil_iff]
  intro k hk
  simp only [decide_eq_true_eq]
  intro hm
  have := Sc.chain_lt ns _ _ hm
  have := List.mem_range.1 hk
  omega
theorem chain_nodup (ns : List N) : ∀ (i : Nat), (chain ns i).Nodup := by
  intro i
  induction i using Nat.strongRecOn with
  | _ i ih =>
    rw [chain]
    split
    · rename_i h
      refine List.nodup_cons.2 ⟨fun hm => ?_, ih _ h.2⟩
      exact Nat.lt_irrefl _ (Sc.chain_lt ns _ _ hm)
    · exact List.nodup_nil
theorem mem_toI {l : List Nat} {i : Nat} : ((i : Nat) : Int) ∈ toI l ↔ i ∈ l := by
  unfold toI
  rw [List.mem_map]
  constructor
  · rintro ⟨a, ha, he⟩
    have : a = i := by omega
    subst this; exact ha
  · intro h; exact ⟨i, h, rfl⟩
theorem toI_nodup {l : List Nat} (h : l.Nodup) : (toI l).Nodup := List.pairwise_map.2 (List.Pairwise.imp (fun {a b} hab e => hab (by have e' : (a : Int) = (b : Int) := e; omega)) h)
theorem nodup_step {l : List Int} (h : l.Nodup) {p : Nat} (hp : p < l.length) : l[p] ∉ l.take p := by
  intro hm
  obtain ⟨q, hq, he⟩ := List.mem_take_iff_getElem.1 hm
  exact List.pairwise_iff_getElem.1 h q p (by omega) hp (by omega) he
def newNode (ns : List N) (r : Nat) : N := ((r : Int) - 1, if r = 0 then 0 else flow ns (r - 1))
theorem right_new {ns : List N} (h : right ns = true) {r : Nat} (hr : r < ns.length + 1) : right (ns ++ [newNode ns r]) = true := by
  refine right_snoc h ?_
  unfold newNode
  by_cases h0 : r = 0
  · subst h0; exact .inl rfl
  · right
    rw [if_neg h0]
    refine ⟨by show (0 : Int) ≤ (r : Int) - 1; omega, by show (r : Int) - 1 < _; omega, ?_⟩
    show flow ns (r - 1) = flow ns ((r : Int) - 1).toNat
    congr 1; omega
theorem law : Keyed Try.prog 3 := int_keyed Try.underlying3
theorem zeroI (w : World) : (zeroValue 3).run Try.prog w = .ok (.int .i64 0) w := by kernel_rfl


set_option maxRecDepth 100000 in
set_option maxHeartbeats 2000000 in
theorem grows_walk (A : Option Addr) (c : Nat) (l : List Int) (m : Nat) (hm : m = l.length) (hmc : m ≤ c) (hcm : c ≤ maxLen) (a : Nat) (ha : a < 256) (w : World) (hI : Nums w w.heap.size A l) :
    Calls Try.prog 4 #[.slice A m c, .int .u8 a] w fun e w' => e = .returned (.bool true) ∧ Below w.heap.size w w' := by
  unfold maxLen at hcm
  have HM := Lib.hid hm
  clear hm
  obtain ⟨i0, hi0, hz0, hz1, hz2⟩ := info_parts infoNodeF
  obtain ⟨i1', hi1, hy0, hy1, hy2⟩ := info_parts infoInt
  have hmm := @run_makeMap Try.prog
  go_enter Try.func4, Try.ntmps4
  go_wp2_with fail
  refine Calls.mono (forest_any A c l m HM.out hmc (by unfold maxLen; exact hcm) w hI) ?_
  rintro e w1 ⟨A1, c1, ns, xs, rfl, h60, hr, hown, hNC, hb1⟩
  obtain ⟨-, hA1, hA2, hNN⟩ := own_nodes hown hNC
  obtain ⟨n, hn⟩ : ∃ n, n = ns.length := ⟨_, rfl⟩
  rw [← hn] at hA1 h60 hown ⊢
  have HN := Lib.hid hn
  have HR := Lib.hid hr
  have HNC := Lib.hid hNC
  have HOWN := Lib.hid hown
  have hnb : n ≤ 1000000000000 := by omega
  clear hn hr hI hNC hown
  have HFIN : Hid (∀ w9, Below w.heap.size w w9 → Calls Try.prog 11 #[] w9 fun e w' => e = .returned (.bool true) ∧ Below w.heap.size w w') := Lib.hid fun w9 h9 => by
    refine Calls.mono (awake_any w9) ?_
    rintro e w10 ⟨rfl, hb10⟩
    exact ⟨rfl, h9.trans (hb10.mono h9.size)⟩
  obtain ⟨r, hr0, hrn⟩ := tmod_lt a (n + 1) (by omega)
  have hr1 : (a : Int).tmod ((n : Int) + 1) = (r : Int) := by rw [← hr0, Int.natCast_add]; rfl
  have y1 : IntKind.i64.wrap ((n : Int) + 1) = (n : Int) + 1 := IntWalk.i64_in _ (by omega)
  have y2 : IntKind.i64.wrap ((r : Int) - 1) = (r : Int) - 1 := IntWalk.i64_in _ (by omega)
  have z0 : ¬ (n : Int) + 1 = 0 := by omega
  have wa : wrap64 (a : Int) = a := IntWalk.wrap64_in _ (by omega)
  have HRN := Lib.hid hrn
  clear hr0 ha
  go_upto_if 25 with fail
  clear hr1 y1 y2 z0 wa
  go_cut [] (fun wx => wx = w1.alloc (.cells (nodeCells (newNode ns r).2 ((r : Int) - 1)).toArray 31))
  case first =>
    by_cases h0 : r = 0
    · have u2 : ¬ (1 : Int) ≤ (r : Int) := by omega
      have HF : Hid ((newNode ns r).2 = 0) := Lib.hid (by unfold newNode; rw [if_pos h0])
      clear h0
      go_wp2_with fail
      go_meet
      rw [HF.out]; rfl
    · have u2 : (1 : Int) ≤ (r : Int) := by omega
      have HF : Hid ((newNode ns r).2 = flow ns (r - 1)) := Lib.hid (by unfold newNode; rw [if_neg h0])
      obtain ⟨b2, o2, rfl, hb2, k3⟩ := hNN.flow_at (j := r - 1) (by have := HN.out; omega)
      have k3' : ∀ O : Obj, (w1.alloc O).cell? ⟨b2, o2 + (r - 1) * 16 + 3, none⟩ = some (.int .i64 (flow ns (r - 1))) := fun O => (((Below.refl w1.heap.size w1).alloc (Nat.le_refl _) O).cell (p := ⟨b2, _, none⟩) hb2).trans k3
      have j1 : (0 : Int) ≤ (r : Int) - 1 := by omega
      have j2 : (r : Int) - 1 < (n : Int) := by omega
      clear h0 hb2
      generalize flow ns (r - 1) = fm at *
      go_wp2_with fail
      go_meet
      rw [HF.out]; rfl
  case rest =>
  obtain rfl := hcut
  have HRX : Hid (right (ns ++ [newNode ns r]) = true) := Lib.hid (right_new HR.out (by have := HN.out; have := HRN.out; omega))
  generalize hx : newNode ns r = x at *
  have hx1 : x.1 = (r : Int) - 1 := by rw [← hx]; rfl
  rw [← hx1]
  clear hx hx1 hrn HRN
  have qN := Blk.new_ w1 31 (nodeCells x.2 x.1).toArray (n := w1.heap.size) rfl
  have hb5 := (Below.refl w1.heap.size w1).alloc (Nat.le_refl _) (.cells (nodeCells x.2 x.1).toArray 31)
  have hown5 := HOWN.out.alloc (.cells (nodeCells x.2 x.1).toArray 31)
  generalize w1.alloc (.cells (nodeCells x.2 x.1).toArray 31) = w5 at *
  have hone := nodeCells_one x.2 x.1
  have hB5 := hb1.trans (hb5.mono hb1.size)
  have hN5 := hNN.grow hb5
  have HB5 := Lib.hid hB5
  have HN5 := Lib.hid hN5
  have HB1 := Lib.hid hb1
  clear hNN hb1 hb5 hN5 hB5
  generalize w1.heap.size = gN at *
  go_upto_region 5 with fail
  go_cut [7] (fun v wx => ∃ g cap, v = .slice (some ⟨g, 0, none⟩) (n + 1) cap ∧ wx.ownsRow w5.heap.size 31 16 (.slice (some ⟨g, 0, none⟩) (n + 1) cap) (n + 1) (xs ++ nodeCells x.2 x.1) ∧ Below w5.heap.size w5 wx)
  case first =>
    have HBX : Hid (n ≤ 60) := Lib.hid h60
    unfold nodeCells at qN
    refine wp_region_held (S := fun W => Below w5.heap.size w5 W) (by kernel_rfl) ?_
    change wpAnyH _ _ _ _ _ 7 _ _ w5.drew
    have hS : Below w5.heap.size w5 w5.drew := (Below.refl _ w5).drew
    have hown5 : World.ownsRow w5.drew w.heap.size 31 16 (.slice A1 n c1) n xs := hown5
    refine held_take (i := 1) rfl rfl (by kernel_rfl) (by kernel_rfl) (by kernel_rfl) (fun _ _ _ h => h) hS (fun W hW => by go_simp; rfl) ?_
    refine wpAnyH_take (i := 3) rfl (by kernel_rfl) (by kernel_rfl) (by kernel_rfl) (fun _ _ _ h => h) (yields_load_row rfl 31 (.tmp 6) rfl gN rfl 31 _ _ _ (fun W hW => (qN.below hW qN.lt).out) Try.underlying31 rfl (by rw [infoNode]; rfl)) hS ?_
    generalize w5.drew = u0 at *
    have HQ := Lib.hid qN
    clear qN
    have f0 := hown5
    clear hown5
    refine held_two (i := 0) (j := 4) (by kernel_rfl) rfl rfl rfl rfl (fun K hK => ?_) (fun K hK => ?_)
    · go_simp
      have hS1 := hS.alloc hS.size (.cells #[] 31)
      have f1 := f0.alloc (.cells #[] 31)
      have r1 : World.ownsRow (u0.alloc (.cells #[] 31)) w5.heap.size 31 16 (.slice (some ⟨u0.heap.size, 0, none⟩) 0 0) 0 [] := (Blk.new_ u0 31 #[] rfl).ownS (by have := hS.size; omega) 16 0 rfl (by decide)
      have hsz1 : u0.heap.size < (u0.alloc (.cells #[] 31)).heap.size := by simp
      refine hK _ _ hS1 ?_
      clear hK K
      generalize u0.alloc (.cells #[] 31) = u1 at *
      refine held_two (i := 2) (j := 4) (by kernel_rfl) rfl rfl rfl rfl (fun K hK => ?_) (fun K hK => ?_)
      · refine wp_append_own2 _ (.tmp 33) (.tmp 34) _ rfl w5.heap.size w.heap.size 31 i0 _ 16 184 Try.underlying23 hi0 hz0 hz1 hz2 rfl (by omega) (.slice (some ⟨u0.heap.size, 0, none⟩) 0 0) 0 [] rfl r1 A1 n c1 xs rfl f1 HNC.out.2.2 (by have := HBX.out; unfold maxLen; omega) (by have := HBX.out; omega) hS1.size ?_
        intro v35 u2 r2 hgrow2 _
        have hS2 := hS1.grown hgrow2 hS1.size (fun j hj => (own_row r1 hj).1)
        replace r2 : World.ownsRow u2 w5.heap.size 31 16 v35 n xs := by simpa using r2
        have hsz2 := hgrow2.size
        refine hK _ _ hS2 ?_
        clear hK K hgrow2
        refine held_one (i := 4) rfl rfl (by kernel_rfl) fun K hK => ?_
        go_simp
        have hS3 := hS2.alloc hS2.size (.cells #[.string ⟨#[]⟩, .string ⟨#[]⟩, .int .u8 0, .int .i64 x.2, .int .i64 x.1, .int .i64 0, .slice none 0 0, .int .i64 0, .int .i64 0, .int .u8 0, .int .i64 0, .int .i64 0, .int .u8 0, .int .i64 0, .string ⟨#[]⟩, .slice none 0 0] 31)
        have r3 := r2.alloc (.cells #[.string ⟨#[]⟩, .string ⟨#[]⟩, .int .u8 0, .int .i64 x.2, .int .i64 x.1, .int .i64 0, .slice none 0 0, .int .i64 0, .int .i64 0, .int .u8 0, .int .i64 0, .int .i64 0, .int .u8 0, .int .i64 0, .string ⟨#[]⟩, .slice none 0 0] 31)
        have q3 := Blk.new_ u2 31 #[.string ⟨#[]⟩, .string ⟨#[]⟩, .int .u8 0, .int .i64 x.2, .int .i64 x.1, .int .i64 0, .slice none 0 0, .int .i64 0, .int .i64 0, .int .u8 0, .int .i64 0, .int .i64 0, .int .u8 0, .int .i64 0, .string ⟨#[]⟩, .slice none 0 0] (n := u2.heap.size) rfl
        have hsz3 : u2.heap.size < (u2.alloc (.cells #[.string ⟨#[]⟩, .string ⟨#[]⟩, .int .u8 0, .int .i64 x.2, .int .i64 x.1, .int .i64 0, .slice none 0 0, .int .i64 0, .int .i64 0, .int .u8 0, .int .i64 0, .int .i64 0, .int .u8 0, .int .i64 0, .string ⟨#[]⟩, .slice none 0 0] 31)).heap.size := by simp
        refine hK _ _ hS3 ?_
        clear hK K
        generalize u2.alloc (.cells #[.string ⟨#[]⟩, .string ⟨#[]⟩, .int .u8 0, .int .i64 x.2, .int .i64 x.1, .int .i64 0, .slice none 0 0, .int .i64 0, .int .i64 0, .int .u8 0, .int .i64 0, .int .i64 0, .int .u8 0, .int .i64 0, .string ⟨#[]⟩, .slice none 0 0] 31) = u3 at *
        refine held_one (i := 5) rfl rfl (by kernel_rfl) fun K hK => ?_
        refine wp_append_lies _ (.tmp 35) (.tmp 37) _ rfl w5.heap.size 31 i0 _ 16 184 Try.underlying23 hi0 hz0 hz1 hz2 rfl (by omega) v35 n xs rfl r3 ⟨u2.heap.size, 0, none⟩ 1 1 (nodeCells x.2 x.1) rfl rfl (World.news_of_block q3.out) hone (by omega) (by have := HBX.out; unfold maxLen; omega) (by have := HBX.out; omega) hS3.size _ rfl ?_
        intro g cap u4 r4 hgrow4 _ _
        have hS4 := hS3.grown hgrow4 hS3.size (fun j hj => (own_row r3 hj).1)
        refine hK _ _ hS4 ?_
        clear hK K
        refine held_take (i := 6) rfl rfl (by kernel_rfl) (by kernel_rfl) (by kernel_rfl) (fun _ _ _ h => h) hS4 (fun W hW => by go_simp; rfl) ?_
        refine wpAnyH_done (by kernel_rfl) ?_ _
        go_wp2_with fail
        go_meet
        exact ⟨g, cap, rfl, r4, hS4⟩
      · go_simp
        have hS2 := hS1.alloc hS1.size (.cells #[.string ⟨#[]⟩, .string ⟨#[]⟩, .int .u8 0, .int .i64 x.2, .int .i64 x.1, .int .i64 0, .slice none 0 0, .int .i64 0, .int .i64 0, .int .u8 0, .int .i64 0, .int .i64 0, .int .u8 0, .int .i64 0, .string ⟨#[]⟩, .slice none 0 0] 31)
        have f2 := f1.alloc (.cells #[.string ⟨#[]⟩, .string ⟨#[]⟩, .int .u8 0, .int .i64 x.2, .int .i64 x.1, .int .i64 0, .slice none 0 0, .int .i64 0, .int .i64 0, .int .u8 0, .int .i64 0, .int .i64 0, .int .u8 0, .int .i64 0, .string ⟨#[]⟩, .slice none 0 0] 31)
        have r2 := r1.alloc (.cells #[.string ⟨#[]⟩, .string ⟨#[]⟩, .int .u8 0, .int .i64 x.2, .int .i64 x.1, .int .i64 0, .slice none 0 0, .int .i64 0, .int .i64 0, .int .u8 0, .int .i64 0, .int .i64 0, .int .u8 0, .int .i64 0, .string ⟨#[]⟩, .slice none 0 0] 31)
        have q2 := Blk.new_ u1 31 #[.string ⟨#[]⟩, .string ⟨#[]⟩, .int .u8 0, .int .i64 x.2, .int .i64 x.1, .int .i64 0, .slice none 0 0, .int .i64 0, .int .i64 0, .int .u8 0, .int .i64 0, .int .i64 0, .int .u8 0, .int .i64 0, .string ⟨#[]⟩, .slice none 0 0] (n := u1.heap.size) rfl
        have hsz2 : u1.heap.size < (u1.alloc (.cells #[.string ⟨#[]⟩, .string ⟨#[]⟩, .int .u8 0, .int .i64 x.2, .int .i64 x.1, .int .i64 0, .slice none 0 0, .int .i64 0, .int .i64 0, .int .u8 0, .int .i64 0, .int .i64 0, .int .u8 0, .int .i64 0, .string ⟨#[]⟩, .slice none 0 0] 31)).heap.size := by simp
        refine hK _ _ hS2 ?_
        clear hK K
        generalize u1.alloc (.cells #[.string ⟨#[]⟩, .string ⟨#[]⟩, .int .u8 0, .int .i64 x.2, .int .i64 x.1, .int .i64 0, .slice none 0 0, .int .i64 0, .int .i64 0, .int .u8 0, .int .i64 0, .int .i64 0, .int .u8 0, .int .i64 0, .string ⟨#[]⟩, .slice none 0 0] 31) = u2 at *
        refine held_one (i := 2) rfl rfl (by kernel_rfl) fun K hK => ?_
        refine wp_append_own2 _ (.tmp 33) (.tmp 34) _ rfl w5.heap.size w.heap.size 31 i0 _ 16 184 Try.underlying23 hi0 hz0 hz1 hz2 rfl (by omega) (.slice (some ⟨u0.heap.size, 0, none⟩) 0 0) 0 [] rfl r2 A1 n c1 xs rfl f2 HNC.out.2.2 (by have := HBX.out; unfold maxLen; omega) (by have := HBX.out; omega) hS2.size ?_
        intro v35 u3 r3 hgrow3 _
        have hS3 := hS2.grown hgrow3 hS2.size (fun j hj => (own_row r2 hj).1)
        replace r3 : World.ownsRow u3 w5.heap.size 31 16 v35 n xs := by simpa using r3
        have q3 := q2.grown hgrow3 (by intro e; simp [Value.ownBlock] at e; omega)
        have hsz3 := hgrow3.size
        refine hK _ _ hS3 ?_
        clear hK K hgrow3
        refine held_one (i := 5) rfl rfl (by kernel_rfl) fun K hK => ?_
        refine wp_append_lies _ (.tmp 35) (.tmp 37) _ rfl w5.heap.size 31 i0 _ 16 184 Try.underlying23 hi0 hz0 hz1 hz2 rfl (by omega) v35 n xs rfl r3 ⟨u1.heap.size, 0, none⟩ 1 1 (nodeCells x.2 x.1) rfl rfl (World.news_of_block q3.out) hone (by omega) (by have := HBX.out; unfold maxLen; omega) (by have := HBX.out; omega) hS3.size _ rfl ?_
        intro g cap u4 r4 hgrow4 _ _
        have hS4 := hS3.grown hgrow4 hS3.size (fun j hj => (own_row r3 hj).1)
        refine hK _ _ hS4 ?_
        clear hK K
        refine held_take (i := 6) rfl rfl (by kernel_rfl) (by kernel_rfl) (by kernel_rfl) (fun _ _ _ h => h) hS4 (fun W hW => by go_simp; rfl) ?_
        refine wpAnyH_done (by kernel_rfl) ?_ _
        go_wp2_with fail
        go_meet
        exact ⟨g, cap, rfl, r4, hS4⟩
    · go_simp
      have hS1 := hS.alloc hS.size (.cells #[.string ⟨#[]⟩, .string ⟨#[]⟩, .int .u8 0, .int .i64 x.2, .int .i64 x.1, .int .i64 0, .slice none 0 0, .int .i64 0, .int .i64 0, .int .u8 0, .int .i64 0, .int .i64 0, .int .u8 0, .int .i64 0, .string ⟨#[]⟩, .slice none 0 0] 31)
      have f1 := f0.alloc (.cells #[.string ⟨#[]⟩, .string ⟨#[]⟩, .int .u8 0, .int .i64 x.2, .int .i64 x.1, .int .i64 0, .slice none 0 0, .int .i64 0, .int .i64 0, .int .u8 0, .int .i64 0, .int .i64 0, .int .u8 0, .int .i64 0, .string ⟨#[]⟩, .slice none 0 0] 31)
      have q1 := Blk.new_ u0 31 #[.string ⟨#[]⟩, .string ⟨#[]⟩, .int .u8 0, .int .i64 x.2, .int .i64 x.1, .int .i64 0, .slice none 0 0, .int .i64 0, .int .i64 0, .int .u8 0, .int .i64 0, .int .i64 0, .int .u8 0, .int .i64 0, .string ⟨#[]⟩, .slice none 0 0] (n := u0.heap.size) rfl
      have hsz1 : u0.heap.size < (u0.alloc (.cells #[.string ⟨#[]⟩, .string ⟨#[]⟩, .int .u8 0, .int .i64 x.2, .int .i64 x.1, .int .i64 0, .slice none 0 0, .int .i64 0, .int .i64 0, .int .u8 0, .int .i64 0, .int .i64 0, .int .u8 0, .int .i64 0, .string ⟨#[]⟩, .slice none 0 0] 31)).heap.size := by simp
      refine hK _ _ hS1 ?_
      clear hK K
      generalize u0.alloc (.cells #[.string ⟨#[]⟩, .string ⟨#[]⟩, .int .u8 0, .int .i64 x.2, .int .i64 x.1, .int .i64 0, .slice none 0 0, .int .i64 0, .int .i64 0, .int .u8 0, .int .i64 0, .int .i64 0, .int .u8 0, .int .i64 0, .string ⟨#[]⟩, .slice none 0 0] 31) = u1 at *
      refine held_one (i := 0) rfl rfl (by kernel_rfl) fun K hK => ?_
      go_simp
      have hS2 := hS1.alloc hS1.size (.cells #[] 31)
      have f2 := f1.alloc (.cells #[] 31)
      have q2 := q1.alloc (.cells #[] 31)
      have r2 : World.ownsRow (u1.alloc (.cells #[] 31)) w5.heap.size 31 16 (.slice (some ⟨u1.heap.size, 0, none⟩) 0 0) 0 [] := (Blk.new_ u1 31 #[] rfl).ownS (by have := hS1.size; omega) 16 0 rfl (by decide)
      have hsz2 : u1.heap.size < (u1.alloc (.cells #[] 31)).heap.size := by simp
      refine hK _ _ hS2 ?_
      clear hK K
      generalize u1.alloc (.cells #[] 31) = u2 at *
      refine held_one (i := 2) rfl rfl (by kernel_rfl) fun K hK => ?_
      refine wp_append_own2 _ (.tmp 33) (.tmp 34) _ rfl w5.heap.size w.heap.size 31 i0 _ 16 184 Try.underlying23 hi0 hz0 hz1 hz2 rfl (by omega) (.slice (some ⟨u1.heap.size, 0, none⟩) 0 0) 0 [] rfl r2 A1 n c1 xs rfl f2 HNC.out.2.2 (by have := HBX.out; unfold maxLen; omega) (by have := HBX.out; omega) hS2.size ?_
      intro v35 u3 r3 hgrow3 _
      have hS3 := hS2.grown hgrow3 hS2.size (fun j hj => (own_row r2 hj).1)
      replace r3 : World.ownsRow u3 w5.heap.size 31 16 v35 n xs := by simpa using r3
      have q3 := q2.grown hgrow3 (by intro e; simp [Value.ownBlock] at e; omega)
      have hsz3 := hgrow3.size
      refine hK _ _ hS3 ?_
      clear hK K hgrow3
      refine held_one (i := 5) rfl rfl (by kernel_rfl) fun K hK => ?_
      refine wp_append_lies _ (.tmp 35) (.tmp 37) _ rfl w5.heap.size 31 i0 _ 16 184 Try.underlying23 hi0 hz0 hz1 hz2 rfl (by omega) v35 n xs rfl r3 ⟨u0.heap.size, 0, none⟩ 1 1 (nodeCells x.2 x.1) rfl rfl (World.news_of_block q3.out) hone (by omega) (by have := HBX.out; unfold maxLen; omega) (by have := HBX.out; omega) hS3.size _ rfl ?_
      intro g cap u4 r4 hgrow4 _ _
      have hS4 := hS3.grown hgrow4 hS3.size (fun j hj => (own_row r3 hj).1)
      refine hK _ _ hS4 ?_
      clear hK K
      refine held_take (i := 6) rfl rfl (by kernel_rfl) (by kernel_rfl) (by kernel_rfl) (fun _ _ _ h => h) hS4 (fun W hW => by go_simp; rfl) ?_
      refine wpAnyH_done (by kernel_rfl) ?_ _
      go_wp2_with fail
      go_meet
      exact ⟨g, cap, rfl, r4, hS4⟩
  case rest =>
  obtain ⟨g7, cap7, rfl, hown7, hB7⟩ := hcut
  have hNC7 : NodeCells (xs ++ nodeCells x.2 x.1) (ns ++ [x]) := HNC.out.snoc rfl rfl rfl hone
  obtain ⟨-, hC1, hC2, hNT⟩ := own_nodes hown7 hNC7
  have hNF := HN5.out.grow hB7
  have HTN : Hid (n + 1 = (ns ++ [x]).length) := Lib.hid (by rw [List.length_append, List.length_singleton, HN.out])
  have HB7 := Lib.hid (HB5.out.trans (hB7.mono HB5.out.size))
  have HNF : Hid (∀ W, Below wc.heap.size wc W → Nodes W W.heap.size A1 ns) := Lib.hid fun W hW => hNF.grow hW
  have HNT : Hid (∀ W, Below wc.heap.size wc W → Nodes W W.heap.size (some ⟨g7, 0, none⟩) (ns ++ [x])) := Lib.hid fun W hW => hNT.grow hW
  have HCH : Hid (∀ i, i < n → chainI (ns ++ [x]) (i : Int) = chainI ns (i : Int)) := Lib.hid fun i hi => chainI_app (by rw [← HN.out]; exact hi)
  have HDP : Hid (∀ i, i < n → deep (ns ++ [x]) (i : Int) = deep ns (i : Int)) := Lib.hid fun i hi => deep_app (by rw [← HN.out]; exact hi)
  have HBL : Hid (∀ i : Nat, below (ns ++ [x]) (i : Int) = below ns (i : Int) ++ (if i ∈ chain (ns ++ [x]) n then [n] else [])) := Lib.hid fun i => by rw [below_app, ← HN.out]
  have HBN : Hid (toI (below (ns ++ [x]) (n : Int)) = []) := Lib.hid (by rw [below_last (by rw [← HTN.out]; exact Nat.le_refl _)]; rfl)
  have HCN : Hid (chainI (ns ++ [x]) (n : Int) = chain (ns ++ [x]) n) := Lib.hid (chainI_nat (by rw [← HTN.out]; omega))
  have hnb1 : n + 1 ≤ 1000000000000 := by omega
  have HNT0 := Lib.hid hNT
  clear hNC7 hown7 hNF hNT HNC HN5 HB5 hB7 hone qN hown5 HOWN
  generalize ns ++ [x] = T at *
  go_wp2_with fail
  refine Calls.mono (right_any (some ⟨g7, 0, none⟩) cap7 T (n + 1) HTN.out hC1 hC2 wc HNT0.out) ?_
  rintro e w8 ⟨rfl, hb8⟩
  rw [HRX.out]
  go_wp2_with fail
  have hM0 := World.ownsMap_made (H := Unit) w8 Try.prog 3 (plainElem Try.prog 3)
  have hSM := hb8.alloc hb8.size (.map #[] 0)
  have hgM : wc.heap.size ≤ w8.heap.size := hb8.size
  have hsM : (w8.alloc (.map #[] 0)).heap.size = w8.heap.size + 1 := by simp
  generalize w8.heap.size = gM at *
  generalize w8.alloc (.map #[] 0) = wM at *
  refine Calls.mono (chain_any (some ⟨g7, 0, none⟩) cap7 T (n + 1) HTN.out hC1 hnb1 HRX.out (n : Int) wM (HNT.out _ hSM)) ?_
  rintro e w9 h9
  rw [HCN.out] at h9
  obtain ⟨A9, c9, rfl, hb9, ho9⟩ := h9
  rw [toI_length] at ho9 ⊢
  have hM9 := ownsMap_below hM0 hb9 (by omega)
  have HS9 := Lib.hid (hSM.trans (hb9.mono hSM.size))
  have hs9 : gM < w9.heap.size := by have := hb9.size; omega
  obtain ⟨y, hy⟩ : ∃ y, y = (chain T n).length := ⟨_, rfl⟩
  have hyn : y ≤ n := by rw [hy]; exact Sc.chain_length T n
  rw [← hy] at ho9 ⊢
  have HY := Lib.hid hy
  have HO9 := Lib.hid ho9
  have HND : Hid ((toI (chain T n)).Nodup) := Lib.hid (toI_nodup (chain_nodup T n))
  clear hy ho9 hM0 hSM hb8 hb9 HNT0
  go_wp2_with fail
  go_loopw [48] (fun ix wr => ∃ (p : Nat) (D : DataW Unit), p ≤ y ∧ ix = .int .i64 p ∧ wr.ownsMap Try.prog 3 (plainElem Try.prog 3) gM p D ∧ InMap D ((toI (chain T n)).take p) ∧ w9.grownBy wr (some gM)) (fun ix _ => y - (intOf ix).toNat)
  case atStart => exact ⟨0, _, Nat.zero_le _, rfl, hM9, InMap.nil, World.grownBy.refl _ _⟩
  case round =>
    obtain ⟨p, D, hpy, rfl, hMp, hIn, hgr⟩ := hrel
    by_cases hlt : p < y
    · have hpl : p < (toI (chain T n)).length := by rw [toI_length, ← HY.out]; exact hlt
      have hoW : World.ownsRow wr (wM.heap.size) 3 1 (.slice A9 y c9) y (iv (toI (chain T n))) := own_keep HO9.out fun g hg => hgr.block g (by obtain ⟨_, cs, hc⟩ := own_row HO9.out hg; exact hc.lt) (by intro e; cases e; have := (own_row HO9.out hg).1; omega)
      obtain ⟨hm, -, -, -⟩ := Nums.of_own hoW
      obtain ⟨b1, o1, rfl, hb1', hcc⟩ := hm.at_ hpl
      have hoc : (toI (chain T n))[p]'hpl = ((chain T n)[p]'(by rw [toI_length] at hpl; exact hpl) : Nat) := by simp [toI]
      have HNI := Lib.hid (nodup_step HND.out hpl)
      have HTK : Hid ((toI (chain T n)).take (p + 1) = (toI (chain T n)).take p ++ [(toI (chain T n))[p]]) := Lib.hid (List.take_succ_eq_append_getElem hpl)
      have hbd : (chain T n)[p]'(by rw [toI_length] at hpl; exact hpl) < n := Sc.chain_lt T n _ (List.getElem_mem _)
      rw [hoc] at HNI HTK hcc
      generalize (chain T n)[p]'(by rw [toI_length] at hpl; exact hpl) = z at *
      have hkey : keyOf Try.prog 3 (.int .i64 (z : Int)) = some (.int .i64 (z : Int)) := keyOf_int_mk Try.underlying3 (WalkArith.wf_i64 (by omega))
      have i1 : (0 : Int) ≤ (p : Int) := by omega
      have i2 : (p : Int) < (y : Int) := by omega
      have HIP := Lib.hid hIn
      clear hoW hm hoc hIn hpl
      go_wp2_with (first | (at_mapUpdate; refine wpList_mapUpdate_own _ rfl _ _ _ 33 rfl 3 3 law Try.underlying33 _ gM p _ rfl hMp (by unfold maxLen; omega) _ _ _ rfl rfl hkey _ [] (plainElem_int Try.underlying3 (by decide)) ?_; intro w1 hown1 hgrow1) | go_in)
      have R1 : Hid (InMap (D.put (.int .i64 (z : Int)) (.lit (.int .i64 1))) ((toI (chain T n)).take (p + 1))) := Lib.hid (by rw [HTK.out]; exact HIP.out.put HNI.out)
      go_roundw
      case rel => exact ⟨p + 1, _, by omega, by go_num, hown1, R1.out, hgr.trans hgrow1⟩
      case measure => simp [intOf]; omega
    · obtain rfl : p = y := by omega
      have HIN : Hid (InMap D (toI (chain T n))) := Lib.hid (by rw [HY.out, ← toI_length, List.take_length] at hIn; exact hIn)
      have hSW : Below wc.heap.size wc wr := HS9.out.grown hgr HS9.out.size (fun j hj => by cases hj; exact hgM)
      have hgl : gM < wr.heap.size := by have := hgr.size; omega
      have HSW := Lib.hid hSW
      clear hIn hgr HS9 hM9 hSW hlt
      go_wp2_with fail
      go_loopw [57] (fun ix wq => ∃ i : Nat, i ≤ n ∧ ix = .int .i64 i ∧ Below wr.heap.size wr wq) (fun ix _ => n - (intOf ix).toNat)
      case atStart => exact ⟨0, Nat.zero_le _, rfl, Below.refl _ _⟩
      case round =>
        obtain ⟨i, hin, rfl, hBq⟩ := hrel
        have hSq := HSW.out.trans (hBq.mono HSW.out.size)
        by_cases hlt : i < n
        · have hMq := ownsMap_below hMp hBq hgl
          have HCHi := Lib.hid (HCH.out i hlt)
          have HDPi : Hid (((deep T (i : Int) : Nat) : Int) = ((deep ns (i : Int) : Nat) : Int)) := Lib.hid (by rw [HDP.out i hlt])
          have hkey : keyOf Try.prog 3 (.int .i64 (i : Int)) = some (.int .i64 (i : Int)) := keyOf_int_mk Try.underlying3 (WalkArith.wf_i64 (by omega))
          have hbl : (below ns (i : Int)).length ≤ n := by rw [below_all, HN.out]; exact fil_le _ _
          have HBLL := Lib.hid hbl
          have HBQ := Lib.hid hBq
          clear hBq hbl
          go_wp2_with fail
          refine Calls.mono (below_any A1 c1 ns n HN.out hA1 hnb HR.out (i : Int) wr (HNF.out _ hSq)) ?_
          rintro e w12 ⟨A12, c12, rfl, hb12, ho12⟩
          rw [toI_length] at ho12 ⊢
          have hM12 := ownsMap_below hMq hb12 (by have := HBQ.out.size; omega)
          have hS12 := hSq.trans (hb12.mono hSq.size)
          have hb12s := hb12.size
          obtain ⟨u, hu⟩ : ∃ u, u = (below ns (i : Int)).length := ⟨_, rfl⟩
          rw [← hu] at ho12 ⊢
          have hun : u ≤ n := by rw [hu]; exact HBLL.out
          have HU := Lib.hid hu
          clear hu
          by_cases hmem : i ∈ chain T n
          · have HT : Hid (toI (below T (i : Int)) = toI (below ns (i : Int)) ++ [(n : Int)]) := Lib.hid (by rw [HBL.out, if_pos hmem, toI_append]; rfl)
            have HMEM : Hid ((i : Int) ∈ toI (chain T n)) := Lib.hid (mem_toI.2 hmem)
            clear hmem
            go_wp2_with (first | (at_lookup; refine wpList_lookup_own_int _ rfl _ _ 33 rfl 3 3 .i64 law Try.underlying33 Try.underlying3 (zeroI _) gM p D rfl hM12 _ _ rfl hkey ?_; intro cc hat hwc; obtain rfl : cc = 1 := by (rw [HIN.out.at_ hat, if_pos HMEM.out])) | (at_builtin; refine wpList_append_lies _ rfl (.tmp 67) (.tmp 70) _ rfl wr.heap.size 3 i1' _ 1 8 Try.underlying22 hi1 hy0 hy1 hy2 rfl (by omega) _ u _ rfl (ho12.alloc _) ⟨w12.heap.size, 0, none⟩ 1 1 [.int .i64 (n : Int)] rfl rfl (World.news_of_block (heap_alloc_new w12 _)) (by intro v hv; simp at hv; subst hv; rfl) (by omega) (by unfold maxLen; omega) (by omega) (by simp; omega) (w12.heap.size + 1) (by simp) ?_) | go_in)
            intro g cap w13 ho13 hgrow _ _
            have hS13 := (hS12.alloc hS12.size (.cells #[.int .i64 (n : Int)] 3)).grown hgrow (by simp; have := hS12.size; omega) (fun j hj => by have := (own_row (ho12.alloc (.cells #[.int .i64 (n : Int)] 3)) hj).1; have := hSq.size; omega)
            have hB13 := ((HBQ.out.trans (hb12.mono HBQ.out.size)).alloc (by have := HBQ.out.size; omega) (.cells #[.int .i64 (n : Int)] 3)).grown hgrow (by simp; have := HBQ.out.size; omega) (fun j hj => by have := (own_row (ho12.alloc (.cells #[.int .i64 (n : Int)] 3)) hj).1; have := HBQ.out.size; omega)
            obtain ⟨L, hL⟩ : ∃ L, L = toI (below T (i : Int)) := ⟨_, rfl⟩
            have HLB := Lib.hid hL
            have ho13' : World.ownsRow w13 wr.heap.size 3 1 (.slice (some ⟨g, 0, none⟩) (u + 1) cap) (u + 1) (iv L) := by rw [hL, HT.out, iv_append]; exact ho13
            obtain ⟨hm13, hl13, hn13, hc13⟩ := Nums.of_own ho13'
            have HL13 := Lib.hid hl13
            clear ho13 ho13' hgrow hL hl13 hM12 hMq ho12 hkey hS12 hSq hb12 HT
            go_wp2_with fail
            refine Calls.mono (deep_any A1 c1 ns n HN.out hA1 hnb HR.out (i : Int) w13 (HNF.out _ hS13)) ?_
            rintro e w14 ⟨rfl, hb14⟩
            have hS14 := hS13.trans (hb14.mono hS13.size)
            have hB14 := hB13.trans (hb14.mono hB13.size)
            have hm14 := hm13.grow hb14
            clear hS13 hB13 hm13 hb14
            go_wp2_with fail
            refine Calls.mono (deep_any (some ⟨g7, 0, none⟩) cap7 T (n + 1) HTN.out hC1 hnb1 HRX.out (i : Int) w14 (HNT.out _ hS14)) ?_
            rintro e w15 ⟨rfl, hb15⟩
            rw [HDPi.out]
            have hS15 := hS14.trans (hb15.mono hS14.size)
            have hB15 := hB14.trans (hb15.mono hB14.size)
            have hm15 := hm14.grow hb15
            clear hS14 hB14 hm14 hb15
            generalize ((deep ns (i : Int) : Nat) : Int) = dp at *
            go_wp2_with fail
            refine Calls.mono (chain_any A1 c1 ns n HN.out hA1 hnb HR.out (i : Int) w15 (HNF.out _ hS15)) ?_
            rintro e w16 h16
            obtain ⟨q, hq⟩ : ∃ q, q = toI (chainI ns (i : Int)) := ⟨_, rfl⟩
            rw [← hq] at h16
            have HQ := Lib.hid hq
            obtain ⟨v, hv⟩ : ∃ v, v = q.length := ⟨_, rfl⟩
            have HV := Lib.hid hv
            clear hq hv
            obtain ⟨A16, c16, rfl, hb16, hm16, hx16, hc16⟩ := IntsOut.nums h16 (n := v) HV.out.symm
            have hS16 := hS15.trans (hb16.mono hS15.size)
            have hB16 := hB15.trans (hb16.mono hB15.size)
            have hk16 := hm15.grow hb16
            clear h16 hS15 hB15 hm15 hb16
            go_wp2_with fail
            refine Calls.mono (chain_any (some ⟨g7, 0, none⟩) cap7 T (n + 1) HTN.out hC1 hnb1 HRX.out (i : Int) w16 (HNT.out _ hS16)) ?_
            rintro e w17 h17
            rw [HCHi.out, ← HQ.out] at h17
            obtain ⟨A17, c17, rfl, hb17, hm17, hx17, hc17⟩ := IntsOut.nums h17 (n := v) HV.out.symm
            have hS17 := hS16.trans (hb17.mono hS16.size)
            have hB17 := hB16.trans (hb17.mono hB16.size)
            have hk17 := hk16.grow hb17
            have hj17 := hm16.grow hb17
            clear h17 hS16 hB16 hm16 hk16 hb17
            go_wp2_with fail
            refine Calls.mono (ints_any A16 A17 c16 c17 q q v v HV.out HV.out hx16 hc16 w17 hj17 hm17) ?_
            rintro e w18 ⟨rfl, hb18⟩
            rw [decide_eq_true (rfl : q = q)]
            have hS18 := hS17.trans (hb18.mono hS17.size)
            have hB18 := hB17.trans (hb18.mono hB17.size)
            have hk18 := hk17.grow hb18
            clear hj17 hm17 hS17 hB17 hk17 hb18 hx16 hc16 hx17 hc17
            go_wp2_with fail
            refine Calls.mono (below_any (some ⟨g7, 0, none⟩) cap7 T (n + 1) HTN.out hC1 hnb1 HRX.out (i : Int) w18 (HNT.out _ hS18)) ?_
            rintro e w19 h19
            rw [← HLB.out] at h19
            obtain ⟨A19, c19, rfl, hb19, hm19, hx19, hc19⟩ := IntsOut.nums h19 (n := u + 1) HL13.out.symm
            have hB19 := hB18.trans (hb19.mono hB18.size)
            have hk19 := hk18.grow hb19
            clear h19 hS18 hB18 hk18 hb19
            go_wp2_with fail
            refine Calls.mono (ints_any A19 (some ⟨g, 0, none⟩) c19 cap L L (u + 1) (u + 1) HL13.out HL13.out hx19 hc19 w19 hm19 hk19) ?_
            rintro e w20 ⟨rfl, hb20⟩
            rw [decide_eq_true (rfl : L = L)]
            have hB20 := hB19.trans (hb20.mono hB19.size)
            clear hm19 hk19 hB19 hb20 hx19 hc19
            go_wp2_with fail
            go_roundw
            case rel => exact ⟨i + 1, by omega, by go_num, hB20⟩
            case measure => simp [intOf]; omega
          · have HT : Hid (toI (below T (i : Int)) = toI (below ns (i : Int))) := Lib.hid (by rw [HBL.out, if_neg hmem, List.append_nil])
            have HMEM : Hid (¬ (i : Int) ∈ toI (chain T n)) := Lib.hid (fun h => hmem (mem_toI.1 h))
            clear hmem
            have hS13 := hS12
            have hB13 := HBQ.out.trans (hb12.mono HBQ.out.size)
            obtain ⟨L, hL⟩ : ∃ L, L = toI (below T (i : Int)) := ⟨_, rfl⟩
            have HLB := Lib.hid hL
            have ho13' : World.ownsRow w12 wr.heap.size 3 1 (.slice A12 u c12) u (iv L) := by rw [hL, HT.out]; exact ho12
            obtain ⟨hm13, hl13, hn13, hc13⟩ := Nums.of_own ho13'
            have HL13 := Lib.hid hl13
            clear ho13' hL hl13 hMq ho12 hS12 hSq hb12 HT
            go_wp2_with (first | (at_lookup; refine wpList_lookup_own_int _ rfl _ _ 33 rfl 3 3 .i64 law Try.underlying33 Try.underlying3 (zeroI _) gM p D rfl hM12 _ _ rfl hkey ?_; intro cc hat hwc; obtain rfl : cc = 0 := by (rw [HIN.out.at_ hat, if_neg HMEM.out])) | (fail))
            clear hM12 hkey
            obtain ⟨w13, hw13⟩ : ∃ w13, w13 = w12 := ⟨_, rfl⟩
            rw [← hw13] at hS13 hB13 hm13 ⊢
            clear hw13
            go_wp2_with fail
            refine Calls.mono (deep_any A1 c1 ns n HN.out hA1 hnb HR.out (i : Int) w13 (HNF.out _ hS13)) ?_
            rintro e w14 ⟨rfl, hb14⟩
            have hS14 := hS13.trans (hb14.mono hS13.size)
            have hB14 := hB13.trans (hb14.mono hB13.size)
            have hm14 := hm13.grow hb14
            clear hS13 hB13 hm13 hb14
            go_wp2_with fail
            refine Calls.mono (deep_any (some ⟨g7, 0, none⟩) cap7 T (n + 1) HTN.out hC1 hnb1 HRX.out (i : Int) w14 (HNT.out _ hS14)) ?_
            rintro e w15 ⟨rfl, hb15⟩
            rw [HDPi.out]
            have hS15 := hS14.trans (hb15.mono hS14.size)
            have hB15 := hB14.trans (hb15.mono hB14.size)
            have hm15 := hm14.grow hb15
            clear hS14 hB14 hm14 hb15
            generalize ((deep ns (i : Int) : Nat) : Int) = dp at *
            go_wp2_with fail
            refine Calls.mono (chain_any A1 c1 ns n HN.out hA1 hnb HR.out (i : Int) w15 (HNF.out _ hS15)) ?_
            rintro e w16 h16
            obtain ⟨q, hq⟩ : ∃ q, q = toI (chainI ns (i : Int)) := ⟨_, rfl⟩
            rw [← hq] at h16
            have HQ := Lib.hid hq
            obtain ⟨v, hv⟩ : ∃ v, v = q.length := ⟨_, rfl⟩
            have HV := Lib.hid hv
            clear hq hv
            obtain ⟨A16, c16, rfl, hb16, hm16, hx16, hc16⟩ := IntsOut.nums h16 (n := v) HV.out.symm
            have hS16 := hS15.trans (hb16.mono hS15.size)
            have hB16 := hB15.trans (hb16.mono hB15.size)
            have hk16 := hm15.grow hb16
            clear h16 hS15 hB15 hm15 hb16
            go_wp2_with fail
            refine Calls.mono (chain_any (some ⟨g7, 0, none⟩) cap7 T (n + 1) HTN.out hC1 hnb1 HRX.out (i : Int) w16 (HNT.out _ hS16)) ?_
            rintro e w17 h17
            rw [HCHi.out, ← HQ.out] at h17
            obtain ⟨A17, c17, rfl, hb17, hm17, hx17, hc17⟩ := IntsOut.nums h17 (n := v) HV.out.symm
            have hS17 := hS16.trans (hb17.mono hS16.size)
            have hB17 := hB16.trans (hb17.mono hB16.size)
            have hk17 := hk16.grow hb17
            have hj17 := hm16.grow hb17
            clear h17 hS16 hB16 hm16 hk16 hb17
            go_wp2_with fail
            refine Calls.mono (ints_any A16 A17 c16 c17 q q v v HV.out HV.out hx16 hc16 w17 hj17 hm17) ?_
            rintro e w18 ⟨rfl, hb18⟩
            rw [decide_eq_true (rfl : q = q)]
            have hS18 := hS17.trans (hb18.mono hS17.size)
            have hB18 := hB17.trans (hb18.mono hB17.size)
            have hk18 := hk17.grow hb18
            clear hj17 hm17 hS17 hB17 hk17 hb18 hx16 hc16 hx17 hc17
            go_wp2_with fail
            refine Calls.mono (below_any (some ⟨g7, 0, none⟩) cap7 T (n + 1) HTN.out hC1 hnb1 HRX.out (i : Int) w18 (HNT.out _ hS18)) ?_
            rintro e w19 h19
            rw [← HLB.out] at h19
            obtain ⟨A19, c19, rfl, hb19, hm19, hx19, hc19⟩ := IntsOut.nums h19 (n := u) HL13.out.symm
            have hB19 := hB18.trans (hb19.mono hB18.size)
            have hk19 := hk18.grow hb19
            clear h19 hS18 hB18 hk18 hb19
            go_wp2_with fail
            refine Calls.mono (ints_any A19 (A12) c19 c12 L L (u) (u) HL13.out HL13.out hx19 hc19 w19 hm19 hk19) ?_
            rintro e w20 ⟨rfl, hb20⟩
            rw [decide_eq_true (rfl : L = L)]
            have hB20 := hB19.trans (hb20.mono hB19.size)
            clear hm19 hk19 hB19 hb20 hx19 hc19
            go_wp2_with fail
            go_roundw
            case rel => exact ⟨i + 1, by omega, by go_num, hB20⟩
            case measure => simp [intOf]; omega
        · obtain rfl : i = n := by omega
          have HSQ := Lib.hid hSq
          clear hSq hBq hlt
          go_wp2_with fail
          refine Calls.mono (below_any (some ⟨g7, 0, none⟩) cap7 T (i + 1) HTN.out hC1 hnb1 HRX.out (i : Int) wr (HNT.out _ HSQ.out)) ?_
          rintro e w20 h20
          rw [HBN.out] at h20
          obtain ⟨A20, c20, rfl, hb20, -, -, -⟩ := IntsOut.nums h20 (n := 0) rfl
          have hS20 := HSQ.out.trans (hb20.mono HSQ.out.size)
          have hFB := HB7.out.trans (hS20.mono HB7.out.size)
          clear h20 hb20 hS20
          go_wp2_with fail
          refine Calls.mono (HFIN.out _ hFB) ?_
          rintro e w21 ⟨rfl, hb21⟩
          go_wp2
          go_ret
          exact ⟨rfl, hb21⟩
end Go.Proofs.Ytcdjhafpnfgnlaa.ScW
