/-
  The walk of way: the least of the shortest ways.
-/
import Derived.Test.YtelplccbcbegkaaBundleWay0
namespace Go.Proofs.Ytelplccbcbegkaa.OrW
set_option linter.unusedVariables false
open Go Go.RowKit Go.Maps Go.Proofs Go.Proofs.Ytelplccbcbegkaa Go.Proofs.Ytelplccbcbegkaa.Wd Go.Proofs.Ytelplccbcbegkaa.GrW Go.Proofs.Ytelplccbcbegkaa.Ord
open Go.Proofs.Ytelplccbcbegkaa.Gr (OK putL outs intos Path E)

/-- What a way answers. -/
def WayOut (w : World) (L : List (List Int)) (fz tz : Nat) (e : Ending) (w' : World) : Prop := ∃ l, WayTo L tz fz l ∧ NumsOut w (zs l) e w'
theorem outs_nat {n : Nat} {L : List (List Int)} (ok : OK n L) (a : Nat) : ∃ l : List Nat, zs l = outs L a ∧ (∀ x ∈ l, x < n) ∧ l.Pairwise (· < ·) := by
  refine ⟨(outs L a).map Int.toNat, ?_, fun x hx => ?_, ?_⟩
  · exact (zs_nats fun x hx => (ok.inside.at_ (2 * a) hx).1).symm
  · obtain ⟨y, hy, rfl⟩ := List.mem_map.1 hx
    have := ok.inside.at_ (2 * a) hy
    omega
  · rw [List.pairwise_map]
    refine (ok.rise (2 * a)).imp_of_mem fun {x y} hx hy h => ?_
    have h1 := ok.inside.at_ (2 * a) hx
    have h2 := ok.inside.at_ (2 * a) hy
    omega
theorem intos_nat {n : Nat} {L : List (List Int)} (ok : OK n L) (a : Nat) : ∃ l : List Nat, zs l = intos L a ∧ (∀ x ∈ l, x < n) := by
  refine ⟨(intos L a).map Int.toNat, ?_, fun x hx => ?_⟩
  · exact (zs_nats fun x hx => (ok.inside.at_ (2 * a + 1) hx).1).symm
  · obtain ⟨y, hy, rfl⟩ := List.mem_map.1 hx
    have := ok.inside.at_ (2 * a + 1) hy
    omega
theorem near_least {n : Nat} {L : List (List Int)} (ok : OK n L) {tz fz : Nat} {f : Nat → Nat} (hk : Known L tz fz f) {out : List Nat} {a d : Nat} (h : OnWay L tz fz f out a (d + 1)) {l : List Nat} (hl : zs l = outs L a) (hr : l.Pairwise (· < ·)) {i : Nat} (hi : i < l.length) (hn : near f a l[i] = true) (hm : ∀ j (hj : j < l.length), j < i → near f a l[j] = false) : OnWay L tz fz f (out ++ [l[i]]) l[i] d := by
  have edge : ∀ x, E L a x ↔ x ∈ l := fun x => by
    rw [← mem_zs, hl]; rfl
  have he : E L a l[i] := (edge _).2 (List.getElem_mem hi)
  refine h.go hk he ((h.near hk he).1 hn) fun u' hu hl' => ?_
  obtain ⟨j, hj, rfl⟩ := List.mem_iff_getElem.1 ((edge _).1 hu)
  apply Nat.le_of_not_lt
  intro hlt
  have h1 := (h.near hk hu).2 hl'
  by_cases hji : j < i
  · rw [hm j hj hji] at h1; cases h1
  · have : i = j ∨ i < j := by omega
    rcases this with rfl | hij
    · omega
    · have := List.pairwise_iff_getElem.1 hr i j hi hj hij
      omega
theorem near_some {L : List (List Int)} {tz fz : Nat} {f : Nat → Nat} (hk : Known L tz fz f) {out : List Nat} {a d : Nat} (h : OnWay L tz fz f out a (d + 1)) {l : List Nat} (hl : zs l = outs L a) : ¬ ∀ x ∈ l, near f a x = false := by
  intro hx
  obtain ⟨u, h1, h2⟩ := h.here.next
  have h3 := hx u (by rw [← mem_zs, hl]; exact h1)
  rw [(h.near hk h1).2 h2] at h3
  cases h3
theorem dist_le {n : Nat} {L : List (List Int)} {tz : Nat} (ok : OK n L) (ht : tz < n) {f : Nat → Nat} (h : ∀ v, f v ≠ 0 → ∃ d, Least L tz v d ∧ f v = d + 1) (z : Nat) : f z ≤ n := by
  by_cases e : f z = 0
  · omega
  · obtain ⟨d, h1, h2⟩ := h z e
    have := h1.few ok ht
    omega
theorem BS.ds {w W : World} {bm mb : Nat} {K : List Nat} {f : Nat → Nat} {nv : Value} {next : List Nat} {rs : List (Value × List Int)} (h : BS w W bm mb K f nv next rs) (fz : Nat) : DS w ((W.alloc (.cells #[.int .i64 (fz : Nat)] 3)).alloc (.cells #[.int .i64 (fz : Nat)] 3)) bm mb K.length (W.heap.size + 1) fz f (.slice (some ⟨W.heap.size, 0, none⟩) 1 1) [fz] := by
  have hb : Below W.heap.size W ((W.alloc (.cells #[.int .i64 (fz : Nat)] 3)).alloc (.cells #[.int .i64 (fz : Nat)] 3)) := ((Below.refl _ W).alloc (Nat.le_refl _) _).alloc (by simp) _
  have h2 := h.below hb
  have hs := h.low.size
  refine ⟨h2.low, h2.hm, Blk.new_ _ 3 _ (by simp), by omega, h2.hmap, ?_, ?_⟩
  · have hB := (Blk.new_ W 3 #[.int .i64 (fz : Nat)] rfl).alloc (.cells #[.int .i64 (fz : Nat)] 3)
    exact hB.ownS hs 1 1 rfl (by decide)
  · intro e
    simp [Value.ownBlock] at e
theorem BS.ix {w W : World} {bm mb : Nat} {K : List Nat} {f : Nat → Nat} {nv : Value} {next : List Nat} {rs : List (Value × List Int)} (h : BS w W bm mb K f nv next rs) {p : Value × List Int} (hp : p ∈ rs) {i : Nat} (hi : i < p.2.length) : ∃ b off c, p.1 = .slice (some ⟨b, off, none⟩) p.2.length c ∧ W.cell? ⟨b, off + i, none⟩ = some (.int .i64 p.2[i]) := by
  obtain ⟨h1, -⟩ := h.rows p hp
  obtain ⟨A, c, e⟩ := own_form h1
  rw [e] at h1
  obtain ⟨b, off, rfl, -, hc⟩ := (IRow.of_own h1).at_ (i := i) hi
  exact ⟨b, off, c, e, hc⟩
set_option maxRecDepth 100000 in
set_option maxHeartbeats 16000000 in
theorem way_any (w : World) (base g n fz tz : Nat) (F : Nat → Prop) (L : List (List Int)) (h : GAt w base F g n L) (ok : OK n L) (hn : n ≤ 10000) (hf : fz < n) (ht : tz < n) (hne : fz ≠ tz) (hp : Path L fz tz) :
    Calls Try.prog 34 #[.pointer (some ⟨g, 0, none⟩), .int .i64 (fz : Nat), .int .i64 (tz : Nat)] w (WayOut w L fz tz) := by
  obtain ⟨d0, hd0⟩ := Steps.of_path hp
  obtain ⟨d1, -, hd1⟩ := hd0.least
  have hdn := hd1.few ok ht
  have HD := Lib.hid hd1
  have HG := Lib.hid h
  have HOK := Lib.hid ok
  have HNE := Lib.hid hne
  obtain ⟨w1, hrun, hBS⟩ := way_start w tz (by omega)
  have hw1 : w.heap.size + 1 ≤ w1.heap.size := by have := hBS.hmap.lt; have := hBS.hm.lt; have := hBS.farM; have := hBS.hmap.ne hBS.hm; omega
  have HB0 := Lib.hid hBS
  have HK0 : Hid (Layer L tz fz 1 (up (fun _ => 0) tz 1) [tz] [] 0 0 ∧ KS n [tz] (up (fun _ => 0) tz 1)) := Lib.hid (by
    refine ⟨Layer.first Bfs.start (fun v => ?_) (fun v => ?_) ?_, by simp, fun y hy => ?_, fun y => ?_⟩
    · unfold up; by_cases e : v = tz <;> simp [e]
    · unfold up; by_cases e : v = tz <;> simp [e]
    · unfold up; rw [if_neg hne]
    · have : y = tz := by simpa using hy
      omega
    · unfold up; by_cases e : y = tz <;> simp [e])
  clear h ok hne hp hd0 hd1 hBS
  generalize hbm : w1.heap.size = bm at *
  have HBM := Lib.hid hbm
  have hmm := @run_makeMap Try.prog
  go_enter Try.func34, Try.ntmps34
  go_wp2_with fail
  go_step3
  go_wp2_with fail
  go_step3
  go_wp2_with fail
  clear hrun hmm
  have HB1 : Hid (∃ (K : List Nat) (f : Nat → Nat) (row : List Nat), 1 = row.length ∧ row.Nodup ∧ Layer L tz fz 1 f row [] 0 0 ∧ KS n K f ∧ BS w ((w1.alloc (.cells #[.map (some w.heap.size)] 31)).alloc (.cells #[.int .i64 (tz : Nat)] 3)) bm w.heap.size K f (.slice none 0 0) [] [(.slice (some ⟨bm + 1, 0, none⟩) 1 1, zs row)]) := Lib.hid ⟨_, _, _, rfl, by simp, HK0.out.1, HK0.out.2, HB0.out⟩
  clear HB0 HK0
  generalize hbm1 : (some ⟨bm + 1, 0, none⟩ : Option Addr) = A1 at *
  clear hbm1
  go_loopg [8] (n - 1) (fun gk rv wr => ∃ (k q c : Nat) (A : Option Addr), k + gk = n ∧ rv = .slice A q c ∧ Hid (∃ (K : List Nat) (f : Nat → Nat) (row : List Nat), q = row.length ∧ row.Nodup ∧ Layer L tz fz k f row [] 0 0 ∧ KS n K f ∧ BS w wr bm w.heap.size K f (.slice none 0 0) [] [(.slice A q c, zs row)]))
  case atStart => exact ⟨1, 1, 1, _, by omega, rfl, HB1⟩
  case round =>
    obtain ⟨k, q, c, A, hkg, rfl, HS⟩ := hrel
    clear HB1
    obtain ⟨K0, f0, row, hq, hnd, hL, hK, hB⟩ := HS.out
    obtain ⟨hkd, hrow⟩ := hL.some_ HD.out
    have HQ := Lib.hid hq
    have hq0 : 0 < q := by rw [hq]; exact List.length_pos_iff.2 hrow
    have hq1 : (0 : Int) < (q : Int) := by omega
    have HRW : Hid (∀ x ∈ row, x < n) := Lib.hid (fun x hx => by
      have h1 := (hL.isRow x).1 hx
      obtain ⟨d, h2, -⟩ := hL.bfs.right x (by have := hL.pos; omega)
      exact h2.lt HOK.out ht)
    have hqn : q ≤ n := by rw [hq]; exact nodup_le hnd HRW.out
    have HNX : Hid (∀ (f : Nat → Nat) (next : List Nat) (j i : Nat), Layer L tz fz k f row next j i → next.length ≤ n) := Lib.hid (fun f next j i h => nodup_le h.nod fun x hx => by
      have h1 := (h.isNext x).1 hx
      obtain ⟨d, h2, -⟩ := h.bfs.right x (by omega)
      exact h2.lt HOK.out ht)
    have HT0 : Hid (∃ (K : List Nat) (f : Nat → Nat) (next : List Nat), 0 = next.length ∧ Layer L tz fz k f row next 0 0 ∧ KS n K f ∧ BS w wr bm w.heap.size K f (.slice none 0 0) next [(.slice A q c, zs row)]) := Lib.hid ⟨K0, f0, [], rfl, hL, hK, hB⟩
    clear HS hL hK hB hq hrow hnd
    go_wp2_with fail
    generalize hwo : wr = wo at *
    clear hwo
    go_loopw [9, 29] (fun nv ix wr => ∃ (j q2 c2 : Nat) (A2 : Option Addr), j ≤ q ∧ ix = .int .i64 j ∧ nv = .slice A2 q2 c2 ∧ Hid (∃ (K : List Nat) (f : Nat → Nat) (next : List Nat), q2 = next.length ∧ Layer L tz fz k f row next j 0 ∧ KS n K f ∧ BS w wr bm w.heap.size K f (.slice A2 q2 c2) next [(.slice A q c, zs row)])) (fun _ ix _ => q - (intOf ix).toNat)
    case atStart => exact ⟨0, 0, 0, none, Nat.zero_le _, rfl, rfl, HT0⟩
    case round =>
      obtain ⟨j, q2, c2, A2, hj, rfl, rfl, HS⟩ := hrel
      clear HT0
      by_cases hlt : j < q
      · have hjl : j < row.length := by have := HQ.out; omega
        obtain ⟨K1, f1, nx1, hq2, hL, hK, hB⟩ := HS.out
        obtain ⟨b, off, c', hv, hc⟩ := hB.ix (p := (.slice A q c, zs row)) (List.mem_cons_self ..) (i := j) (by show j < (zs row).length; rw [zs_length]; exact hjl)
        simp only [Value.slice.injEq] at hv
        obtain ⟨rfl, -, -⟩ := hv
        rw [zs_at hjl] at hc
        have hxn := HRW.out _ (List.getElem_mem hjl)
        have HX : Hid (row[j] = row[j]) := Lib.hid rfl
        have HJ := Lib.hid hjl
        have HIN := Lib.hid (into_any wr base g n F L (HG.out.below hB.low) (HOK.out.rises (by omega)) (row[j] : Nat))
        generalize hx : row[j] = x at hc hxn HIN
        have HXJ := Lib.hid hx
        have i1 : (0 : Int) ≤ (j : Int) := by omega
        have i2 : (j : Int) < (q : Int) := by omega
        have HLT := Lib.hid hlt
        have HB2 := Lib.hid hB
        have HL2 := Lib.hid hL
        have HK2 := Lib.hid hK
        have HQ2 := Lib.hid hq2
        have hq2n : q2 ≤ n := by rw [hq2]; exact HNX.out _ _ _ _ hL
        clear HS hL hK hB hq2 hx hjl HX
        go_wp2_with fail
        refine Calls.mono HIN.out ?_
        rintro e w2 ⟨v2, rfl, o2, b2⟩
        rw [intoE_nat L hxn] at o2
        obtain ⟨ins, hins, hinb⟩ := intos_nat HOK.out x
        rw [← hins] at o2
        have hB3 := HB2.out.row b2 o2
        obtain ⟨A3, c3, rfl⟩ := own_form o2
        rw [zs_length] at hB3
        generalize hm : ins.length = m at *
        have hmn : m ≤ n := by
          have := HOK.out.many (2 * x + 1)
          rw [← hm, ← zs_length, hins]; exact this
        have HM := Lib.hid hm
        have HINS := Lib.hid hins
        have HINB := Lib.hid hinb
        have HT1 : Hid (∃ (K : List Nat) (f : Nat → Nat) (next : List Nat), q2 = next.length ∧ Layer L tz fz k f row next j 0 ∧ KS n K f ∧ BS w w2 bm w.heap.size K f (.slice A2 q2 c2) next [(.slice A3 m c3, zs ins), (.slice (some ⟨b, off, none⟩) q c, zs row)]) := Lib.hid ⟨K1, f1, nx1, HQ2.out, HL2.out, HK2.out, hB3⟩
        have hlz : (zs ins).length = m := by rw [zs_length, hm]
        clear HIN HB2 HL2 HK2 HQ2 hc o2 b2 hB3 hins hinb hm
        rw [hlz]
        go_wp2_with fail
        generalize hw2 : w2 = wp at *
        clear hw2
        go_loopw [9, 37] (fun nv ix wr => ∃ (i q3 c4 : Nat) (A4 : Option Addr), i ≤ m ∧ ix = .int .i64 i ∧ nv = .slice A4 q3 c4 ∧ Hid (∃ (K : List Nat) (f : Nat → Nat) (next : List Nat), q3 = next.length ∧ Layer L tz fz k f row next j i ∧ KS n K f ∧ BS w wr bm w.heap.size K f (.slice A4 q3 c4) next [(.slice A3 m c3, zs ins), (.slice (some ⟨b, off, none⟩) q c, zs row)])) (fun _ ix _ => m - (intOf ix).toNat)
        case atStart => exact ⟨0, q2, c2, A2, Nat.zero_le _, rfl, rfl, HT1⟩
        case round =>
          obtain ⟨i, q3, c4, A4, hi, rfl, rfl, HS⟩ := hrel
          clear HT1
          by_cases hlt2 : i < m
          · have hil : i < ins.length := by have := HM.out; omega
            obtain ⟨K2, f2, nx2, hq3, hL, hK, hB⟩ := HS.out
            obtain ⟨b', off', c', hv, hc⟩ := hB.ix (p := (.slice A3 m c3, zs ins)) (List.mem_cons_self ..) (i := i) (by show i < (zs ins).length; rw [zs_length]; exact hil)
            simp only [Value.slice.injEq] at hv
            obtain ⟨rfl, -, -⟩ := hv
            rw [zs_at hil] at hc
            have hun := HINB.out _ (List.getElem_mem hil)
            have hat : (intos L row[j])[i]? = some ((ins[i] : Nat) : Int) := by rw [HXJ.out, ← HINS.out]; rw [List.getElem?_eq_getElem (by rw [zs_length]; exact hil), zs_at hil]
            have HAT := Lib.hid hat
            have hed : Gr.E L ins[i] row[j] := by
              have h1 : ((ins[i] : Nat) : Int) ∈ intos L row[j] := List.mem_of_getElem? hat
              exact (HOK.out.cons ins[i] row[j] hun (by rw [HXJ.out]; exact hxn)).2 h1
            have HED := Lib.hid hed
            clear hat hed
            generalize hu : ins[i] = u at *
            have hq3n : q3 ≤ n := by rw [hq3]; exact HNX.out _ _ _ _ hL
            have hfx : f2 x = k := by rw [← HXJ.out]; exact (hL.isRow _).1 (List.getElem_mem HJ.out)
            have hoff := hL.off
            have HB2 := Lib.hid hB
            have HL2 := Lib.hid hL
            have HK2 := Lib.hid hK
            have HQ3 := Lib.hid hq3
            have hcm := hB.hm.at_ 0 rfl
            have hlu := hB.hmap.look u (by omega)
            have hlx := hB.hmap.look x (by omega)
            rw [hfx] at hlx
            have i3 : (0 : Int) ≤ (i : Int) := by omega
            have i4 : (i : Int) < (m : Int) := by omega
            have HLT2 := Lib.hid hlt2
            have k1 : k ≤ n := by omega
            have hfu : f2 u ≤ n := dist_le HOK.out ht hL.bfs.right u
            clear HS hL hK hB hq3 hfx hil hu
            by_cases hf0 : f2 u = 0
            · rw [hf0] at hlu
              have e0 : ((0 : Nat) : Int) = 0 := rfl
              rw [e0] at hlu
              clear e0
              have hkey : keyOf Try.prog 3 (.int .i64 (u : Int)) = some (.int .i64 (u : Int)) := keyOf_int_mk Try.underlying3 (WalkArith.wf_i64 (by omega))
              obtain ⟨D, hMp, hFM⟩ := HB2.out.hmap
              have HFM := Lib.hid hFM
              have HF0 := Lib.hid hf0
              have hlen : K2.length < maxLen := by have := HK2.out.few; unfold maxLen; omega
              clear hFM hf0 hoff
              go_upto_region 13 with (first | (at_mapUpdate; refine wpList_mapUpdate_own _ rfl _ _ _ 31 rfl 3 3 law Try.underlying31 _ w.heap.size K2.length D rfl hMp hlen _ _ _ rfl rfl hkey _ [] (plainElem_int Try.underlying3 (WalkArith.wf_i64 (by omega))) ?_; intro w4 hown4 hgrow4) | fail)
              have HB4 : Hid (BS w w4 bm w.heap.size (K2 ++ [u]) (up f2 u (k + 1)) (.slice A4 q3 c4) nx2 [(.slice (some ⟨b', off', none⟩) m c3, zs ins), (.slice (some ⟨b, off, none⟩) q c, zs row)]) := Lib.hid (HB2.out.meet ⟨_, hown4, HFM.out.put u (k + 1)⟩ hgrow4)
              have HO4 := Lib.hid HB4.out.hnext
              rw [← HQ3.out] at HO4
              have hs4 : w.heap.size ≤ w4.heap.size := HB4.out.low.size
              have HNB := Lib.hid (Blk.new_ w4 3 #[.int .i64 (u : Nat)] (n := w4.heap.size) rfl)
              have HKS : Hid (KS n (K2 ++ [u]) (up f2 u (k + 1))) := Lib.hid (HK2.out.put hun HF0.out (by omega))
              have hzl : q3 = (zs nx2).length := by rw [zs_length]; exact HQ3.out
              have HZL := Lib.hid hzl
              clear hMp hkey hown4 hgrow4 hlu hlx hcm HB2 hlen HFM HK2 hzl
              by_cases huf : u = fz
              · have e1 : ((u : Int) == (fz : Int)) = true := by rw [beq_iff_eq, huf]
                have HUF := Lib.hid huf
                clear huf
                go_wp2_with (at_builtin; refine wpList_push rfl (.tmp 51) (.tmp 53) rfl w.heap.size _ q3 (zs nx2) HZL.out rfl (HO4.out.alloc (.cells #[.int .i64 (u : Nat)] 3)) w4.heap.size (u : Nat) rfl HNB.out (by omega) (by simp; omega) ?_)
                intro v5 w5 ho5 hg5 hv5
                have hB5 := ((HB4.out.below ((Below.refl _ w4).alloc (Nat.le_refl _) (.cells #[.int .i64 (u : Nat)] 3))).push (by rw [← HQ3.out]; exact ho5) hg5 (by
                  rcases hv5 with hv5 | hv5
                  · exact .inl hv5
                  · exact .inr ⟨_, hv5, by simp⟩))
                have hKN : Known L tz fz (up f2 u (k + 1)) := by
                  rw [HUF.out]
                  refine HL2.out.found (v := row[j]'HJ.out) ((HL2.out.isRow _).1 (List.getElem_mem HJ.out)) ?_
                  rw [← HUF.out]; exact HED.out
                have HKN := Lib.hid hKN
                obtain ⟨dd, hway⟩ := OnWay.start hKN
                have HDS := Lib.hid (hB5.ds fz)
                have hcl : (K2 ++ [u]).length ≤ n := HKS.out.few
                have HDL : Hid (∀ z, up f2 u (k + 1) z ≤ n) := Lib.hid (dist_le HOK.out ht hKN.right)
                generalize hff : up f2 u (k + 1) = ff at *
                generalize hcc : (K2 ++ [u]).length = cc at *
                have HD0 : Hid (∃ out : List Nat, 1 = out.length ∧ OnWay L tz fz ff out fz dd ∧ DS w ((w5.alloc (.cells #[.int .i64 (fz : Nat)] 3)).alloc (.cells #[.int .i64 (fz : Nat)] 3)) bm w.heap.size cc (w5.heap.size + 1) fz ff (.slice (some ⟨w5.heap.size, 0, none⟩) 1 1) out) := Lib.hid ⟨[fz], rfl, hway, HDS.out⟩
                clear hff hcc hcl hway HDS hKN hB5 ho5 hg5 hv5 HB4 HO4 HNB HKS HL2 hc HD HAT HED HUF HZL HF0 HQ3
                go_wp2_with fail
                go_loopg [14, 15] dd (fun d ov bv wr => ∃ (a m bx c5 : Nat) (A5 : Option Addr), a < n ∧ ov = .slice A5 m c5 ∧ bv = .pointer (some ⟨bx, 0, none⟩) ∧ Hid (∃ out : List Nat, m = out.length ∧ OnWay L tz fz ff out a d ∧ DS w wr bm w.heap.size cc bx a ff ov out))
                case atStart => exact ⟨fz, 1, _, 1, _, hf, rfl, rfl, HD0⟩
                case round =>
                  obtain ⟨a, mm, bx, c5, A5, han, rfl, rfl, HS⟩ := hrel
                  clear HD0
                  obtain ⟨out, hm2, hW, hD⟩ := HS.out
                  have hba := hD.hx.at_ 0 rfl
                  cases gk with
                  | zero =>
                    have haz := hW.here.zero
                    have e2 : ((a : Int) != (tz : Int)) = false := by rw [haz]; simp
                    have HF : Hid (WayOut w L fz tz (.returned (.slice A5 mm c5)) wr) := Lib.hid ⟨out, hW.end_, _, rfl, by have h3 := hD.hout; rw [zs_length, ← hm2]; rw [← hm2] at h3; exact h3, hD.low⟩
                    clear HS hW hD hm2 haz
                    go_wp2_with fail
                    try rw [Exit.noGoto_ret]
                    go_ret
                    exact HF.out
                  | succ d =>
                    have haz : a ≠ tz := fun e => by
                      subst e
                      have h3 := hW.here.uniq .top
                      omega
                    have e2 : ((a : Int) != (tz : Int)) = true := by rw [bne_iff_ne]; omega
                    have HW := Lib.hid hW
                    have HDS := Lib.hid hD
                    have HM2 := Lib.hid hm2
                    have hmn : mm ≤ 20000 := by
                      have h3 := hW.long
                      have h4 := HDL.out fz
                      omega
                    obtain ⟨l, hl, hlb, hlr⟩ := outs_nat HOK.out a
                    have HLZ := Lib.hid hl
                    have HLB := Lib.hid hlb
                    have HLR := Lib.hid hlr
                    have HOU := Lib.hid (out_any wr base g n F L (HG.out.below hD.low) (HOK.out.rises (by omega)) (a : Nat))
                    clear HS hW hD hm2 haz hl hlb hlr
                    go_wp2_with fail
                    refine Calls.mono HOU.out ?_
                    rintro e w6 ⟨v6, rfl, o6, b6⟩
                    rw [outE_nat L han, ← HLZ.out] at o6
                    obtain ⟨A6, c6, rfl⟩ := own_form o6
                    have hll : l.length ≤ n := by
                      have := HOK.out.many (2 * a)
                      rw [← zs_length, HLZ.out]; exact this
                    have HD6 := Lib.hid (HDS.out.below b6)
                    have HR6 := Lib.hid (IRow.of_own o6)
                    have hba6 := HD6.out.hx.at_ 0 rfl
                    clear HOU HDS o6 b6 hba
                    rw [zs_length] at HR6 ⊢
                    generalize hlm : l.length = lm at *
                    have HLM := Lib.hid hlm
                    clear hlm
                    have HFI := Lib.hid (first_any w6 bm bx w.heap.size cc a wr.heap.size ff HD6.out.hm HD6.out.hx HD6.out.hmap (by omega) (fun z => by have := HDL.out z; omega) A6 lm c6 l HLM.out.symm (by omega) (fun x hx => by have := HLB.out x hx; omega) HR6.out)
                    go_wp2_with fail
                    refine Calls.mono HFI.out ?_
                    rintro e w7 ⟨b7, hcase⟩
                    rcases hcase with ⟨rfl, hno⟩ | ⟨ix, hix, rfl, hnear, hbef⟩
                    · exact absurd hno (near_some HKN.out HW.out HLZ.out)
                    · have HWN := Lib.hid (near_least HOK.out HKN.out HW.out HLZ.out HLR.out hix hnear hbef)
                      obtain ⟨b6, off6, rfl, hb6, hc6⟩ := (HR6.out.below b7).at_ (i := ix) (by rw [zs_length]; exact hix)
                      rw [zs_at hix] at hc6
                      have hvn := HLB.out _ (List.getElem_mem hix)
                      have HD7 := Lib.hid (HD6.out.below b7)
                      have hixl : ix < lm := by have := HLM.out; omega
                      generalize l[ix] = v at *
                      have HD8 := Lib.hid (HD7.out.set v)
                      have hcx := HD7.out.hx.at_ 0 rfl
                      have hfx := HD7.out.hx.frozen 0
                      have hcx8 : (w7.setCell ⟨bx, 0, none⟩ (.int .i64 (v : Nat))).cell? ⟨bx, 0, none⟩ = some (.int .i64 (v : Nat)) := HD8.out.hx.at_ 0 rfl
                      have i5 : (0 : Int) ≤ (ix : Int) := by omega
                      have i6 : (ix : Int) < (lm : Int) := by omega
                      have HML : Hid (mm = (zs out).length) := Lib.hid (by rw [zs_length]; exact HM2.out)
                      have HDA := Lib.hid (HD8.out.below ((Below.refl _ _).alloc (Nat.le_refl _) (.cells #[.int .i64 (v : Nat)] 3)))
                      have HNB := Lib.hid (Blk.new_ (w7.setCell ⟨bx, 0, none⟩ (.int .i64 (v : Nat))) 3 #[.int .i64 (v : Nat)] (n := w7.heap.size) (by simp))
                      have hrow := HDA.out.hout
                      rw [← HM2.out] at hrow
                      have HROW := Lib.hid hrow
                      have hsz : w.heap.size ≤ w7.heap.size := HD7.out.low.size
                      clear HFI b7 hnear hbef HR6 HLM HD6 hba6 hrow hb6 hix
                      go_wp2_with (at_builtin; refine wpList_push rfl (.tmp 80) (.tmp 82) rfl w.heap.size _ mm (zs out) HML.out rfl HROW.out w7.heap.size (v : Nat) rfl HNB.out (by omega) (by simp; omega) ?_)
                      intro v9 w9 ho9 hg9 hv9
                      have hD9 := HDA.out.push (by rw [← HM2.out]; exact ho9) hg9 (by
                        rcases hv9 with hv9 | hv9
                        · exact .inl hv9
                        · exact .inr ⟨_, hv9, by simp⟩)
                      obtain ⟨A9, c9, rfl⟩ := own_form ho9
                      have hcx9 := hD9.hx.at_ 0 rfl
                      have HN : Hid (∃ out2 : List Nat, mm + 1 = out2.length ∧ OnWay L tz fz ff out2 v d ∧ DS w (w9.alloc (.cells #[.int .i64 (v : Nat)] 3)) bm w.heap.size cc w9.heap.size v ff (.slice A9 (mm + 1) c9) out2) := Lib.hid ⟨out ++ [v], by rw [List.length_append, ← HM2.out]; rfl, HWN.out, hD9.box⟩
                      clear HD7 HD8 HDA HNB HROW hsz ho9 hg9 hv9 hD9 hcx hfx hcx8 hc6
                      go_wp2_with fail
                      go_roundg d
                      case rel => exact ⟨v, mm + 1, w9.heap.size, c9, A9, hvn, rfl, rfl, HN⟩
                      case measure => omega
              · have e1 : ((u : Int) == (fz : Int)) = false := by rw [beq_eq_false_iff_ne]; omega
                have HUF := Lib.hid huf
                clear huf
                go_wp2_with (at_builtin; refine wpList_push rfl (.tmp 51) (.tmp 53) rfl w.heap.size _ q3 (zs nx2) HZL.out rfl (HO4.out.alloc (.cells #[.int .i64 (u : Nat)] 3)) w4.heap.size (u : Nat) rfl HNB.out (by omega) (by simp; omega) ?_)
                intro v5 w5 ho5 hg5 hv5
                have hB5 := ((HB4.out.below ((Below.refl _ w4).alloc (Nat.le_refl _) (.cells #[.int .i64 (u : Nat)] 3))).push (by rw [← HQ3.out]; exact ho5) hg5 (by
                  rcases hv5 with hv5 | hv5
                  · exact .inl hv5
                  · exact .inr ⟨_, hv5, by simp⟩))
                obtain ⟨A5, c5, rfl⟩ := own_form ho5
                have hL5 := HL2.out.put HJ.out HAT.out HED.out HF0.out HUF.out
                have HN : Hid (∃ (K : List Nat) (f : Nat → Nat) (next : List Nat), q3 + 1 = next.length ∧ Layer L tz fz k f row next j (i + 1) ∧ KS n K f ∧ BS w w5 bm w.heap.size K f (.slice A5 (q3 + 1) c5) next [(.slice (some ⟨b', off', none⟩) m c3, zs ins), (.slice (some ⟨b, off, none⟩) q c, zs row)]) := Lib.hid ⟨_, _, _, by rw [List.length_append, ← HQ3.out]; rfl, hL5, HKS.out, hB5⟩
                clear ho5 hg5 hv5 hB5 hL5 HB4 HO4 HNB HKS HL2 hc
                go_wp2_with fail
                go_roundw
                case rel => exact ⟨i + 1, q3 + 1, c5, A5, by have := HLT2.out; omega, by go_num, rfl, HN⟩
                case measure => simp [intOf]; have := HLT2.out; omega
            · have huf : u ≠ fz := fun e => hf0 (e ▸ hoff)
              have e0 : ((f2 u : Int) == 0) = false := by rw [beq_eq_false_iff_ne]; omega
              have e1 : ((u : Int) == (fz : Int)) = false := by rw [beq_eq_false_iff_ne]; omega
              have HN : Hid (∃ (K : List Nat) (f : Nat → Nat) (next : List Nat), q3 = next.length ∧ Layer L tz fz k f row next j (i + 1) ∧ KS n K f ∧ BS w wr bm w.heap.size K f (.slice A4 q3 c4) next [(.slice (some ⟨b', off', none⟩) m c3, zs ins), (.slice (some ⟨b, off, none⟩) q c, zs row)]) := Lib.hid ⟨_, _, _, HQ3.out, HL2.out.known HJ.out HAT.out hf0, HK2.out, HB2.out⟩
              clear hf0 huf hoff HB2 HL2 HK2
              generalize f2 u = fu at *
              go_wp2_with fail
              go_roundw
              case rel => exact ⟨i + 1, q3, c4, A4, by have := HLT2.out; omega, by go_num, rfl, HN⟩
              case measure => simp [intOf]; have := HLT2.out; omega
          · obtain rfl : i = m := by omega
            obtain ⟨K2, f2, nx2, hq3, hL, hK, hB⟩ := HS.out
            have g0 : row[j]'HJ.out = x := HXJ.out
            have g1 : row[j]'HJ.out < n := by rw [g0]; exact hxn
            have g2 : (intos L (row[j]'HJ.out)).length ≤ i := by rw [g0, ← HINS.out, zs_length, HM.out]; exact Nat.le_refl _
            clear g0
            have HN : Hid (∃ (K : List Nat) (f : Nat → Nat) (next : List Nat), q3 = next.length ∧ Layer L tz fz k f row next (j + 1) 0 ∧ KS n K f ∧ BS w wr bm w.heap.size K f (.slice A4 q3 c4) next [(.slice (some ⟨b, off, none⟩) q c, zs row)]) := Lib.hid ⟨_, _, _, hq3, hL.over HOK.out HJ.out g1 g2, hK, hB.drop⟩
            clear HS hq3 hL hK hB g1 g2
            go_wp2_with fail
            go_roundw
            case rel => exact ⟨j + 1, q3, c4, A4, by have := HLT.out; omega, by go_num, rfl, HN⟩
            case measure => simp [intOf]; have := HLT.out; omega
      · obtain rfl : j = q := by omega
        obtain ⟨K2, f2, nx2, hq3, hL, hK, hB⟩ := HS.out
        have HN : Hid (∃ (K : List Nat) (f : Nat → Nat) (row : List Nat), q2 = row.length ∧ row.Nodup ∧ Layer L tz fz (k + 1) f row [] 0 0 ∧ KS n K f ∧ BS w wr bm w.heap.size K f (.slice none 0 0) [] [(.slice A2 q2 c2, zs row)]) := Lib.hid ⟨_, _, nx2, hq3, hL.nod, hL.go (by rw [← HQ.out]; exact Nat.le_refl _), hK, hB.turn⟩
        clear HS hq3 hL hK hB
        go_wp2_with fail
        go_roundg (gk - 1)
        case rel => exact ⟨k + 1, q2, c2, A2, by omega, rfl, HN⟩
        case measure => omega
end Go.Proofs.Ytelplccbcbegkaa.OrW
