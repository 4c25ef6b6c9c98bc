/-
  The walk of what Append puts.
-/
import Derived.Test.YtgajgjijnpigoaaDiskWalks2
namespace Go.Proofs.Ytgajgjijnpigoaa.Dk
set_option linter.unusedVariables false
open Go Go.RowKit Go.Proofs Go.Proofs.Ytgajgjijnpigoaa Go.Proofs.Ytgajgjijnpigoaa.Wd

theorem wp_append_seg {w : World} {F : Nat → Prop} {v : Value} {l : List UInt8} {o : Oper} {a : Act} {K : Act → World → Prop} {Q : Exit → Act → World → Prop} {s x : Operand}
    (ho : o.op = .call { callee := .builtin .append, args := #[s, x], argTypes := #[29, 29] })
    (hs : a.eval s = v) (h : SegV w F v l) {B : Nat} {A : Option Addr} {m c : Nat} {l2 : List UInt8} (hx : a.eval x = .slice A m c) (hm : m = l2.length) (hr : Bytes w B A l2) (hb : l.length + m ≤ 1000000000000)
    (hK : ∀ v' w', SegV w' (fun k => F k ∨ w.heap.size ≤ k) v' (l ++ l2) → Fr F w w' → K (a.put o.dst v') w') : o.wp Try.prog a w K Q := by
  obtain ⟨v', w', hrun, h2, h3⟩ := run_append_seg (c := c) h hm hr hb o.type
  unfold Oper.wp
  simp [execOp, ho, resolve, invoke, builtin, hs, hx, hrun, Result.andThen]

  exact hK v' w' h2 h3

section
variable {w w2 : World} {base : Nat} {F G : Nat → Prop} {g : Nat} {s : DS} {cs : Array Value} {v : Nat → Value} {vf : Value} {R : Nat → Nat → Prop} {fb : Nat → Prop}
/-- A segment's bytes are others now: in its own row, or in a new one. -/
theorem At'.row_set (h : At' w base F g s cs v vf R fb) {k : Nat} (hk : k < 2) (hfr : Fr (R k) w w2) {v' : Value} {l' : List UInt8} (hs : SegV w2 (fun j => R k j ∨ w.heap.size ≤ j) v' l') (hlo : base ≤ w.heap.size) (ok : Ok { s with all := upd s.all k l' }) :
    Next w base F g { s with all := upd s.all k l' } (w2.setCell ⟨g, 2 + k * 2, none⟩ v') := by
  have hfg : Fr (fun j => j = g) w2 (w2.setCell ⟨g, 2 + k * 2, none⟩ v') := Fr.setCell (F := fun j => j = g) (p := ⟨g, 2 + k * 2, none⟩) (Fr.refl _ w2) (.inl rfl) v'
  have hg2 : g < w.heap.size := (h.lo g h.fg).2
  have hsz := hfr.size
  refine ⟨fun j => F j ∨ (w.heap.size ≤ j ∧ j < w2.heap.size), ⟨cs.setIfInBounds (2 + k * 2) v', upd v k v', vf, upd R k (fun j => (R k j ∨ w.heap.size ≤ j) ∧ j < w2.heap.size), fb, ?_⟩, ?_, ?_⟩
  rotate_left
  · refine Fr.setCell (p := ⟨g, 2 + k * 2, none⟩) (hfr.more fun i hi => .inl (h.fR k hk i hi).1) (.inl h.fg) v'
  · rintro j (hj | hj)
    · exact .inl hj
    · exact .inr hj.1
  refine ⟨ok, (h.blk.fr hfr (fun e => (h.fR k hk g e).2 rfl)).set_ _ _, h.cells.set_seg hk v' l', fun i hi => ?_, ?_, .inl h.fg, fun i hi j hj => ?_, fun j hj => ⟨.inl (h.ff j hj).1, (h.ff j hj).2.1, fun i hi hr => ?_⟩, fun i i' hi hi' hne j hj hj' => ?_, fun j hj => ?_⟩
  · by_cases e : i = k
    · subst e
      simp only [upd_eq]
      refine (hs.fr hfg ?_).more fun j hj hr => ?_
      · rintro j (hj | hj) e
        · exact (h.fR i hi j hj).2 e
        · omega
      · exact ⟨hr, by simpa using hj⟩
    · simp only [upd_ne e]
      refine ((h.row i hi).fr hfr fun j hj hr => h.apart i k hi hk e j hj hr).fr hfg fun j hj e' => (h.fR i hi j hj).2 e'
  · refine (h.fuse.fr hfr fun j hj hr => (h.ff j hj).2.2 k hk hr).fr hfg fun j hj e => (h.ff j hj).2.1 e
  · by_cases e : i = k
    · subst e
      simp only [upd_eq] at hj
      rcases hj.1 with hr | hr
      · exact ⟨.inl (h.fR i hi j hr).1, (h.fR i hi j hr).2⟩
      · exact ⟨.inr ⟨hr, hj.2⟩, by omega⟩
    · simp only [upd_ne e] at hj
      exact ⟨.inl (h.fR i hi j hj).1, (h.fR i hi j hj).2⟩
  · by_cases e : i = k
    · subst e
      simp only [upd_eq] at hr
      rcases hr.1 with hr1 | hr1
      · exact (h.ff j hj).2.2 i hi hr1
      · have := (h.lo j (h.ff j hj).1).2; omega
    · simp only [upd_ne e] at hr
      exact (h.ff j hj).2.2 i hi hr
  · by_cases e : i = k
    · subst e
      have e' : i' ≠ i := Ne.symm hne
      simp only [upd_eq] at hj
      simp only [upd_ne e'] at hj'
      rcases hj.1 with hr | hr
      · exact h.apart i i' hi hi' hne j hr hj'
      · have := (h.lo j (h.fR i' hi' j hj').1).2; omega
    · by_cases e' : i' = k
      · subst e'
        simp only [upd_eq] at hj'
        simp only [upd_ne e] at hj
        rcases hj'.1 with hr | hr
        · exact h.apart i i' hi hi' hne j hj hr
        · have := (h.lo j (h.fR i hi j hj).1).2; omega
      · simp only [upd_ne e] at hj
        simp only [upd_ne e'] at hj'
        exact h.apart i i' hi hi' hne j hj hj'
  · rcases hj with hj | hj
    · have := h.lo j hj; simp; omega
    · simp; omega

/-- What Append puts. -/
def putD (k : Nat) (b : List UInt8) (p : Nat) (s : DS) : DS := { s with all := upd s.all k (s.all k ++ b.take p) }
theorem putD_ok (h : Ok s) {k : Nat} (hk : k < 2) (b : List UInt8) (p : Nat) (hroom : (s.all 0).length + (s.all 1).length + b.length ≤ s.cap) : Ok (putD k b p s) := by
  have ht : (b.take p).length ≤ b.length := by rw [List.length_take]; omega
  unfold putD
  refine ⟨h.cap, ?_, fun i hi => ?_, h.sl, h.lo, h.fuse⟩
  · show (upd s.all k (s.all k ++ b.take p) 0).length + (upd s.all k (s.all k ++ b.take p) 1).length ≤ s.cap
    rcases (by omega : k = 0 ∨ k = 1) with rfl | rfl
    · rw [upd_eq, upd_ne (by decide), List.length_append]; omega
    · rw [upd_eq, upd_ne (by decide), List.length_append]; omega
  · show s.safe i ≤ (upd s.all k (s.all k ++ b.take p) i).length
    have := h.safe i hi
    by_cases e : i = k
    · subst e; rw [upd_eq, List.length_append]; omega
    · rw [upd_ne e]; exact this

set_option maxRecDepth 100000 in
set_option maxHeartbeats 1000000 in
theorem put_any (h : At w base F g s) {k : Nat} (hk : k < 2) {B3 B4 B5 : Nat} {A : Option Addr} {n c : Nat} {b : List UInt8} (q3 : Blk w B3 25 #[.pointer (some ⟨g, 0, none⟩)]) (q4 : Blk w B4 3 #[.int .i64 k]) (q5 : Blk w B5 29 #[.slice A n c]) (f3 : ¬ F B3) (f4 : ¬ F B4) (f5 : ¬ F B5)
    (hn : n = b.length) (hnc : n ≤ c) (hI : Bytes w w.heap.size A b) (hroom : (s.all 0).length + (s.all 1).length + n ≤ s.cap) (p : Nat) :
    Calls Try.prog 32 #[.int .i64 p, .pointer (some ⟨B3, 0, none⟩), .pointer (some ⟨B4, 0, none⟩), .pointer (some ⟨B5, 0, none⟩)] w fun e w' => (∃ v, e = .returned v) ∧ Next w base F g (putD k b p s) w' := by
  obtain ⟨cs, v, vf, R, fb, h⟩ := h
  have HOK := Lib.hid (putD_ok h.ok hk b p (by rw [← hn]; exact hroom))
  have hcap := h.ok.cap
  obtain ⟨A0, k0, e0, l0, m0, b0⟩ := h.form hk
  have hseg := h.row k hk
  have cg := h.cell (h.cells.seg k hk)
  rw [e0] at hseg cg
  have hbase : base ≤ w.heap.size := by have := h.lo g h.fg; omega
  have hle : (s.all k).length ≤ 1048576 := by rcases (by omega : k = 0 ∨ k = 1) with rfl | rfl <;> omega
  have hbg3 : B3 ≠ g := Blk.ne_ q3 h.blk (by decide)
  have hbg4 : B4 ≠ g := Blk.ne_ q4 h.blk (by decide)
  have hbg5 : B5 ≠ g := Blk.ne_ q5 h.blk (by decide)
  have d3 := Blk.at_ q3 0 (v := .pointer (some ⟨g, 0, none⟩)) rfl
  have d4 := Blk.at_ q4 0 (v := .int .i64 (k : Int)) rfl
  have d5 := Blk.at_ q5 0 (v := .slice A n c) rfl
  have HBY : Hid (Bytes w w.heap.size A (b.take p)) := Lib.hid (hI.head p)
  have j1 : (0 : Int) ≤ (k : Int) := by omega
  have j2 : (k : Int) < 2 := by omega
  have HS2 : Hid (∀ v' w2, SegV w2 (fun j => R k j ∨ w.heap.size ≤ j) v' (s.all k ++ b.take p) → Fr (R k) w w2 → w2.cell? ⟨B3, 0, none⟩ = some (.pointer (some ⟨g, 0, none⟩)) ∧ w2.cell? ⟨B4, 0, none⟩ = some (.int .i64 (k : Int)) ∧ w2.cell? ⟨B5, 0, none⟩ = some (.slice A n c) ∧
      w2.cell? ⟨g, 2 + k * 2, none⟩ = some (.slice A0 (s.all k).length k0) ∧ w2.frozen? ⟨g, 2 + k * 2, none⟩ = false ∧ Next w base F g (putD k b p s) (w2.setCell ⟨g, 2 + k * 2, none⟩ v')) := Lib.hid fun v' w2 hs2 hfr => by
    refine ⟨Blk.at_ (q3.fr hfr fun e => f3 (h.fR k hk _ e).1) 0 rfl, Blk.at_ (q4.fr hfr fun e => f4 (h.fR k hk _ e).1) 0 rfl, Blk.at_ (q5.fr hfr fun e => f5 (h.fR k hk _ e).1) 0 rfl, ?_, ?_, ?_⟩
    · have := h.blk.fr hfr (fun e => (h.fR k hk g e).2 rfl)
      exact Blk.at_ this _ (by rw [← e0]; exact h.cells.seg k hk)
    · exact (h.blk.fr hfr (fun e => (h.fR k hk g e).2 rfl)).frozen _
    · exact h.row_set hk hfr hs2 hbase HOK.out
  have HS3 : Hid (∀ v' (w2 : World), w2.cell? ⟨B3, 0, none⟩ = some (.pointer (some ⟨g, 0, none⟩)) ∧ w2.cell? ⟨B4, 0, none⟩ = some (.int .i64 (k : Int)) ∧ w2.cell? ⟨B5, 0, none⟩ = some (.slice A n c) ∧
      w2.cell? ⟨g, 2 + k * 2, none⟩ = some (.slice A0 (s.all k).length k0) ∧ w2.frozen? ⟨g, 2 + k * 2, none⟩ = false ∧ Next w base F g (putD k b p s) (w2.setCell ⟨g, 2 + k * 2, none⟩ v') →
      (w2.setCell ⟨g, 2 + k * 2, none⟩ v').cell? ⟨B3, 0, none⟩ = some (.pointer (some ⟨g, 0, none⟩)) ∧ (w2.setCell ⟨g, 2 + k * 2, none⟩ v').cell? ⟨B4, 0, none⟩ = some (.int .i64 (k : Int)) ∧ (w2.setCell ⟨g, 2 + k * 2, none⟩ v').cell? ⟨B5, 0, none⟩ = some (.slice A n c) ∧ (true = false → (w2.setCell ⟨g, 2 + k * 2, none⟩ v').cell? ⟨g, 2 + k * 2, none⟩ = some (.slice A0 (s.all k).length k0))) := Lib.hid fun v' w2 h2 =>
    ⟨(World.cell?_setCell_other w2 ⟨g, 2 + k * 2, none⟩ ⟨B3, 0, none⟩ v' (by intro e; injection e with e1; exact hbg3 e1.symm)).trans h2.1, (World.cell?_setCell_other w2 ⟨g, 2 + k * 2, none⟩ ⟨B4, 0, none⟩ v' (by intro e; injection e with e1; exact hbg4 e1.symm)).trans h2.2.1, (World.cell?_setCell_other w2 ⟨g, 2 + k * 2, none⟩ ⟨B5, 0, none⟩ v' (by intro e; injection e with e1; exact hbg5 e1.symm)).trans h2.2.2.1, fun e => by cases e⟩
  clear h hI q3 q4 q5 e0 l0 m0 b0
  by_cases hp : p ≤ n
  · have HTK : Hid (p = (b.take p).length) := Lib.hid (by rw [List.length_take]; omega)
    have i1 : ¬ n < p := by omega
    have i2 : (p : Int) ≤ (c : Int) := by omega
    have i0 : (0 : Int) ≤ (p : Int) := by omega
    clear hp hn
    go_enter Try.func32, Try.ntmps32
    refine wp_region_heldG [20] (fun st W => W.cell? ⟨B3, 0, none⟩ = some (.pointer (some ⟨g, 0, none⟩)) ∧ W.cell? ⟨B4, 0, none⟩ = some (.int .i64 (k : Int)) ∧ W.cell? ⟨B5, 0, none⟩ = some (.slice A n c) ∧ (st 20 = false → W.cell? ⟨g, 2 + k * 2, none⟩ = some (.slice A0 (s.all k).length k0))) (by kernel_rfl) ?_
    change wpAnyG _ _ _ _ _ _ 21 _ _ (World.drew _)
    have hS : w.drew.cell? ⟨B3, 0, none⟩ = some (.pointer (some ⟨g, 0, none⟩)) ∧ w.drew.cell? ⟨B4, 0, none⟩ = some (.int .i64 (k : Int)) ∧ w.drew.cell? ⟨B5, 0, none⟩ = some (.slice A n c) ∧ (came [20] (Array.replicate 21 false) 20 = false → w.drew.cell? ⟨g, 2 + k * 2, none⟩ = some (.slice A0 (s.all k).length k0)) := ⟨d3, d4, d5, fun _ => cg⟩
    -- take0 take1 take2 take3 take4 take5 take6 take7 take8 take9 take10 take11 take12 take16 take17 one13 take14 one15 take18 take19 one20 done
    refine g_take (i := 0) rfl rfl (by kernel_rfl) (by kernel_rfl) (by kernel_rfl) (by kernel_rfl) (by kernel_rfl) (fun _ _ _ h => h) hS (fun L W hL hW => by have q1 := hW.1; have q2 := hW.2.1; have q3 := hW.2.2.1; have q4 := hW.2.2.2 (by simp [came, hL 20 (by kernel_rfl)]); go_simp; rfl) ?_
    refine g_take (i := 1) rfl rfl (by kernel_rfl) (by kernel_rfl) (by kernel_rfl) (by kernel_rfl) (by kernel_rfl) (fun _ _ _ h => h) hS (fun L W hL hW => by have q1 := hW.1; have q2 := hW.2.1; have q3 := hW.2.2.1; have q4 := hW.2.2.2 (by simp [came, hL 20 (by kernel_rfl)]); go_simp; rfl) ?_
    refine g_take (i := 2) rfl rfl (by kernel_rfl) (by kernel_rfl) (by kernel_rfl) (by kernel_rfl) (by kernel_rfl) (fun _ _ _ h => h) hS (fun L W hL hW => by have q1 := hW.1; have q2 := hW.2.1; have q3 := hW.2.2.1; have q4 := hW.2.2.2 (by simp [came, hL 20 (by kernel_rfl)]); go_simp; rfl) ?_
    refine g_take (i := 3) rfl rfl (by kernel_rfl) (by kernel_rfl) (by kernel_rfl) (by kernel_rfl) (by kernel_rfl) (fun _ _ _ h => h) hS (fun L W hL hW => by have q1 := hW.1; have q2 := hW.2.1; have q3 := hW.2.2.1; have q4 := hW.2.2.2 (by simp [came, hL 20 (by kernel_rfl)]); go_simp; rfl) ?_
    refine g_take (i := 4) rfl rfl (by kernel_rfl) (by kernel_rfl) (by kernel_rfl) (by kernel_rfl) (by kernel_rfl) (fun _ _ _ h => h) hS (fun L W hL hW => by go_simp; rfl) ?_
    refine g_take (i := 5) rfl rfl (by kernel_rfl) (by kernel_rfl) (by kernel_rfl) (by kernel_rfl) (by kernel_rfl) (fun _ _ _ h => h) hS (fun L W hL hW => by go_simp; rfl) ?_
    refine g_take (i := 6) rfl rfl (by kernel_rfl) (by kernel_rfl) (by kernel_rfl) (by kernel_rfl) (by kernel_rfl) (fun _ _ _ h => h) hS (fun L W hL hW => by go_simp; rfl) ?_
    refine g_take (i := 7) rfl rfl (by kernel_rfl) (by kernel_rfl) (by kernel_rfl) (by kernel_rfl) (by kernel_rfl) (fun _ _ _ h => h) hS (fun L W hL hW => by go_simp; rfl) ?_
    refine g_take (i := 8) rfl rfl (by kernel_rfl) (by kernel_rfl) (by kernel_rfl) (by kernel_rfl) (by kernel_rfl) (fun _ _ _ h => h) hS (fun L W hL hW => by have q1 := hW.1; have q2 := hW.2.1; have q3 := hW.2.2.1; have q4 := hW.2.2.2 (by simp [came, hL 20 (by kernel_rfl)]); go_simp; rfl) ?_
    refine g_take (i := 9) rfl rfl (by kernel_rfl) (by kernel_rfl) (by kernel_rfl) (by kernel_rfl) (by kernel_rfl) (fun _ _ _ h => h) hS (fun L W hL hW => by have q1 := hW.1; have q2 := hW.2.1; have q3 := hW.2.2.1; have q4 := hW.2.2.2 (by simp [came, hL 20 (by kernel_rfl)]); go_simp; rfl) ?_
    refine g_take (i := 10) rfl rfl (by kernel_rfl) (by kernel_rfl) (by kernel_rfl) (by kernel_rfl) (by kernel_rfl) (fun _ _ _ h => h) hS (fun L W hL hW => by go_simp; rfl) ?_
    refine g_take (i := 11) rfl rfl (by kernel_rfl) (by kernel_rfl) (by kernel_rfl) (by kernel_rfl) (by kernel_rfl) (fun _ _ _ h => h) hS (fun L W hL hW => by have q1 := hW.1; have q2 := hW.2.1; have q3 := hW.2.2.1; have q4 := hW.2.2.2 (by simp [came, hL 20 (by kernel_rfl)]); go_simp; rfl) ?_
    refine g_take (i := 12) rfl rfl (by kernel_rfl) (by kernel_rfl) (by kernel_rfl) (by kernel_rfl) (by kernel_rfl) (fun _ _ _ h => h) hS (fun L W hL hW => by go_simp; rfl) ?_
    refine g_take (i := 16) rfl rfl (by kernel_rfl) (by kernel_rfl) (by kernel_rfl) (by kernel_rfl) (by kernel_rfl) (fun _ _ _ h => h) hS (fun L W hL hW => by go_simp; rfl) ?_
    refine g_take (i := 17) rfl rfl (by kernel_rfl) (by kernel_rfl) (by kernel_rfl) (by kernel_rfl) (by kernel_rfl) (fun _ _ _ h => h) hS (fun L W hL hW => by go_simp; rfl) ?_
    refine g_one (i := 13) rfl rfl (by kernel_rfl) fun K hK => ?_
    go_simp
    refine hK _ _ hS ?_
    clear hK K
    refine g_take (i := 14) rfl rfl (by kernel_rfl) (by kernel_rfl) (by kernel_rfl) (by kernel_rfl) (by kernel_rfl) (fun _ _ _ h => h) hS (fun L W hL hW => by go_simp; rfl) ?_
    refine g_one (i := 15) rfl rfl (by kernel_rfl) fun K hK => ?_
    refine wp_append_seg (s := .tmp 13) (x := .tmp 19) rfl (v := .slice A0 (s.all k).length k0) rfl hseg (A := A) (m := p) (c := c) rfl (l2 := b.take p) HTK.out (by exact HBY.out) (by omega) ?_
    intro v' w2 hs2 hfr
    obtain ⟨A2, k2, hv, -, -, -⟩ := hs2.form
    obtain ⟨q2, hq2⟩ : ∃ q2, q2 = (s.all k ++ b.take p).length := ⟨_, rfl⟩
    rw [← hq2] at hv
    subst hv
    clear hq2
    have hS2 := HS2.out _ w2 hs2 ⟨hfr.os, hfr.tape, hfr.output, hfr.size, hfr.block⟩
    refine hK _ _ ⟨hS2.1, hS2.2.1, hS2.2.2.1, fun _ => hS2.2.2.2.1⟩ ?_
    clear hK K
    refine g_take (i := 18) rfl rfl (by kernel_rfl) (by kernel_rfl) (by kernel_rfl) (by kernel_rfl) (by kernel_rfl) (fun _ _ _ h => h) ⟨hS2.1, hS2.2.1, hS2.2.2.1, fun _ => hS2.2.2.2.1⟩ (fun L W hL hW => by go_simp; rfl) ?_
    refine g_take (i := 19) rfl rfl (by kernel_rfl) (by kernel_rfl) (by kernel_rfl) (by kernel_rfl) (by kernel_rfl) (fun _ _ _ h => h) ⟨hS2.1, hS2.2.1, hS2.2.2.1, fun _ => hS2.2.2.2.1⟩ (fun L W hL hW => by go_simp; rfl) ?_
    refine g_one (i := 20) rfl rfl (by kernel_rfl) fun K hK => ?_
    have c2 := hS2.2.2.2.1
    have fz := hS2.2.2.2.2.1
    go_simp
    refine hK _ _ (HS3.out _ _ hS2) ?_
    clear hK K
    refine wpAnyG_done (by kernel_rfl) ?_ _
    go_end0
    exact ⟨⟨_, rfl⟩, hS2.2.2.2.2.2⟩
  · have HTK : Hid (n = (b.take p).length) := Lib.hid (by rw [List.length_take]; omega)
    have i1 : n < p := by omega
    have i2 : (n : Int) ≤ (c : Int) := by omega
    have i0 : (0 : Int) ≤ (n : Int) := by omega
    clear hp hn
    go_enter Try.func32, Try.ntmps32
    refine wp_region_heldG [20] (fun st W => W.cell? ⟨B3, 0, none⟩ = some (.pointer (some ⟨g, 0, none⟩)) ∧ W.cell? ⟨B4, 0, none⟩ = some (.int .i64 (k : Int)) ∧ W.cell? ⟨B5, 0, none⟩ = some (.slice A n c) ∧ (st 20 = false → W.cell? ⟨g, 2 + k * 2, none⟩ = some (.slice A0 (s.all k).length k0))) (by kernel_rfl) ?_
    change wpAnyG _ _ _ _ _ _ 21 _ _ (World.drew _)
    have hS : w.drew.cell? ⟨B3, 0, none⟩ = some (.pointer (some ⟨g, 0, none⟩)) ∧ w.drew.cell? ⟨B4, 0, none⟩ = some (.int .i64 (k : Int)) ∧ w.drew.cell? ⟨B5, 0, none⟩ = some (.slice A n c) ∧ (came [20] (Array.replicate 21 false) 20 = false → w.drew.cell? ⟨g, 2 + k * 2, none⟩ = some (.slice A0 (s.all k).length k0)) := ⟨d3, d4, d5, fun _ => cg⟩
    -- take0 take1 take2 take3 take4 take5 take6 take7 take8 take9 take10 take11 take12 take16 take17 one13 take14 one15 take18 take19 one20 done
    refine g_take (i := 0) rfl rfl (by kernel_rfl) (by kernel_rfl) (by kernel_rfl) (by kernel_rfl) (by kernel_rfl) (fun _ _ _ h => h) hS (fun L W hL hW => by have q1 := hW.1; have q2 := hW.2.1; have q3 := hW.2.2.1; have q4 := hW.2.2.2 (by simp [came, hL 20 (by kernel_rfl)]); go_simp; rfl) ?_
    refine g_take (i := 1) rfl rfl (by kernel_rfl) (by kernel_rfl) (by kernel_rfl) (by kernel_rfl) (by kernel_rfl) (fun _ _ _ h => h) hS (fun L W hL hW => by have q1 := hW.1; have q2 := hW.2.1; have q3 := hW.2.2.1; have q4 := hW.2.2.2 (by simp [came, hL 20 (by kernel_rfl)]); go_simp; rfl) ?_
    refine g_take (i := 2) rfl rfl (by kernel_rfl) (by kernel_rfl) (by kernel_rfl) (by kernel_rfl) (by kernel_rfl) (fun _ _ _ h => h) hS (fun L W hL hW => by have q1 := hW.1; have q2 := hW.2.1; have q3 := hW.2.2.1; have q4 := hW.2.2.2 (by simp [came, hL 20 (by kernel_rfl)]); go_simp; rfl) ?_
    refine g_take (i := 3) rfl rfl (by kernel_rfl) (by kernel_rfl) (by kernel_rfl) (by kernel_rfl) (by kernel_rfl) (fun _ _ _ h => h) hS (fun L W hL hW => by have q1 := hW.1; have q2 := hW.2.1; have q3 := hW.2.2.1; have q4 := hW.2.2.2 (by simp [came, hL 20 (by kernel_rfl)]); go_simp; rfl) ?_
    refine g_take (i := 4) rfl rfl (by kernel_rfl) (by kernel_rfl) (by kernel_rfl) (by kernel_rfl) (by kernel_rfl) (fun _ _ _ h => h) hS (fun L W hL hW => by go_simp; rfl) ?_
    refine g_take (i := 5) rfl rfl (by kernel_rfl) (by kernel_rfl) (by kernel_rfl) (by kernel_rfl) (by kernel_rfl) (fun _ _ _ h => h) hS (fun L W hL hW => by go_simp; rfl) ?_
    refine g_take (i := 6) rfl rfl (by kernel_rfl) (by kernel_rfl) (by kernel_rfl) (by kernel_rfl) (by kernel_rfl) (fun _ _ _ h => h) hS (fun L W hL hW => by go_simp; rfl) ?_
    refine g_take (i := 7) rfl rfl (by kernel_rfl) (by kernel_rfl) (by kernel_rfl) (by kernel_rfl) (by kernel_rfl) (fun _ _ _ h => h) hS (fun L W hL hW => by go_simp; rfl) ?_
    refine g_take (i := 8) rfl rfl (by kernel_rfl) (by kernel_rfl) (by kernel_rfl) (by kernel_rfl) (by kernel_rfl) (fun _ _ _ h => h) hS (fun L W hL hW => by have q1 := hW.1; have q2 := hW.2.1; have q3 := hW.2.2.1; have q4 := hW.2.2.2 (by simp [came, hL 20 (by kernel_rfl)]); go_simp; rfl) ?_
    refine g_take (i := 9) rfl rfl (by kernel_rfl) (by kernel_rfl) (by kernel_rfl) (by kernel_rfl) (by kernel_rfl) (fun _ _ _ h => h) hS (fun L W hL hW => by have q1 := hW.1; have q2 := hW.2.1; have q3 := hW.2.2.1; have q4 := hW.2.2.2 (by simp [came, hL 20 (by kernel_rfl)]); go_simp; rfl) ?_
    refine g_take (i := 10) rfl rfl (by kernel_rfl) (by kernel_rfl) (by kernel_rfl) (by kernel_rfl) (by kernel_rfl) (fun _ _ _ h => h) hS (fun L W hL hW => by go_simp; rfl) ?_
    refine g_take (i := 11) rfl rfl (by kernel_rfl) (by kernel_rfl) (by kernel_rfl) (by kernel_rfl) (by kernel_rfl) (fun _ _ _ h => h) hS (fun L W hL hW => by have q1 := hW.1; have q2 := hW.2.1; have q3 := hW.2.2.1; have q4 := hW.2.2.2 (by simp [came, hL 20 (by kernel_rfl)]); go_simp; rfl) ?_
    refine g_take (i := 12) rfl rfl (by kernel_rfl) (by kernel_rfl) (by kernel_rfl) (by kernel_rfl) (by kernel_rfl) (fun _ _ _ h => h) hS (fun L W hL hW => by go_simp; rfl) ?_
    refine g_take (i := 16) rfl rfl (by kernel_rfl) (by kernel_rfl) (by kernel_rfl) (by kernel_rfl) (by kernel_rfl) (fun _ _ _ h => h) hS (fun L W hL hW => by go_simp; rfl) ?_
    refine g_take (i := 17) rfl rfl (by kernel_rfl) (by kernel_rfl) (by kernel_rfl) (by kernel_rfl) (by kernel_rfl) (fun _ _ _ h => h) hS (fun L W hL hW => by go_simp; rfl) ?_
    refine g_one (i := 13) rfl rfl (by kernel_rfl) fun K hK => ?_
    go_simp
    refine hK _ _ hS ?_
    clear hK K
    refine g_take (i := 14) rfl rfl (by kernel_rfl) (by kernel_rfl) (by kernel_rfl) (by kernel_rfl) (by kernel_rfl) (fun _ _ _ h => h) hS (fun L W hL hW => by go_simp; rfl) ?_
    refine g_one (i := 15) rfl rfl (by kernel_rfl) fun K hK => ?_
    refine wp_append_seg (s := .tmp 13) (x := .tmp 19) rfl (v := .slice A0 (s.all k).length k0) rfl hseg (A := A) (m := n) (c := c) rfl (l2 := b.take p) HTK.out (by exact HBY.out) (by omega) ?_
    intro v' w2 hs2 hfr
    obtain ⟨A2, k2, hv, -, -, -⟩ := hs2.form
    obtain ⟨q2, hq2⟩ : ∃ q2, q2 = (s.all k ++ b.take p).length := ⟨_, rfl⟩
    rw [← hq2] at hv
    subst hv
    clear hq2
    have hS2 := HS2.out _ w2 hs2 ⟨hfr.os, hfr.tape, hfr.output, hfr.size, hfr.block⟩
    refine hK _ _ ⟨hS2.1, hS2.2.1, hS2.2.2.1, fun _ => hS2.2.2.2.1⟩ ?_
    clear hK K
    refine g_take (i := 18) rfl rfl (by kernel_rfl) (by kernel_rfl) (by kernel_rfl) (by kernel_rfl) (by kernel_rfl) (fun _ _ _ h => h) ⟨hS2.1, hS2.2.1, hS2.2.2.1, fun _ => hS2.2.2.2.1⟩ (fun L W hL hW => by go_simp; rfl) ?_
    refine g_take (i := 19) rfl rfl (by kernel_rfl) (by kernel_rfl) (by kernel_rfl) (by kernel_rfl) (by kernel_rfl) (fun _ _ _ h => h) ⟨hS2.1, hS2.2.1, hS2.2.2.1, fun _ => hS2.2.2.2.1⟩ (fun L W hL hW => by go_simp; rfl) ?_
    refine g_one (i := 20) rfl rfl (by kernel_rfl) fun K hK => ?_
    have c2 := hS2.2.2.2.1
    have fz := hS2.2.2.2.2.1
    go_simp
    refine hK _ _ (HS3.out _ _ hS2) ?_
    clear hK K
    refine wpAnyG_done (by kernel_rfl) ?_ _
    go_end0
    exact ⟨⟨_, rfl⟩, hS2.2.2.2.2.2⟩
end
end Go.Proofs.Ytgajgjijnpigoaa.Dk
