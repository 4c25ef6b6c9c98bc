/-
  The walk of a part.
-/
import Derived.Test.YtelplccbcbegkaaOrderPart
import Derived.Test.YtelplccbcbegkaaOrderCat
namespace Go.Proofs.Ytelplccbcbegkaa.OrW
set_option linter.unusedVariables false
open Go Go.RowKit Go.Maps Go.Proofs Go.Proofs.Ytelplccbcbegkaa Go.Proofs.Ytelplccbcbegkaa.Wd Go.Proofs.Ytelplccbcbegkaa.GrW Go.Proofs.Ytelplccbcbegkaa.Ord
open Go.Proofs.Ytelplccbcbegkaa.Gr (OK putL)

theorem goes (w0 : World) (base o bm bu bo bx bf bq mb n g bh : Nat) (fN fM : FuncId) (F Fg : Nat → Prop) (L : List (List Int)) (P A : List Nat) (vp va : Value) (hO : OParts w0 base F o n L P A g vp va Fg) (hP : Perm n P A) (hn : n ≤ 30000) (nx : Nat → List Int) (qp : Nat → Bool) (hNM : NM w0 fN fM g bh n nx qp) : ∀ k, Goes w0 o bm bu bo bx bf bq mb n (nextV fN g) (mayV fM bh) P nx (fun y => qp (P.getD y 0)) k
  | 0 => fun K W x hS hx hxK hnd hKn hk => by
    have h1 := nodup_le (n := n) (K := K ++ [x]) (by
      rw [List.nodup_append]
      exact ⟨hnd, by simp, fun a ha b hb e => by
        have : b = x := by simpa using hb
        subst this
        exact hxK (e ▸ ha)⟩) (fun y hy => by
      rcases List.mem_append.1 hy with h | h
      · exact hKn y h
      · have : y = x := by simpa using h
        omega)
    rw [List.length_append, List.length_singleton] at h1
    omega
  | k + 1 => goes_next w0 base o bm bu bo bx bf bq mb n g bh fN fM F Fg L P A vp va hO hP hn nx qp hNM k (goes w0 base o bm bu bo bx bf bq mb n g bh fN fM F Fg L P A vp va hO hP hn nx qp hNM k)
/-- What a part answers: the places of all that is met, rising. -/
def PartOut (w0 : World) (nx : Nat → List Int) (q : Nat → Bool) (P : List Nat) (v : Nat) (e : Ending) (w' : World) : Prop := ∃ l, IsPart nx q P v l ∧ NumsOut w0 (zs l) e w'
/-- The world behind the boxes. -/
def boxesO (w : World) (o : Nat) (nv mv : Value) : World := ((((((w.alloc (.cells #[.pointer (some ⟨o, 0, none⟩)] 23)).alloc (.cells #[nv] 97)).alloc (.cells #[mv] 82)).alloc (.cells #[.slice none 0 0] 27)).alloc (.map #[] 0)).alloc (.cells #[.map (some (w.heap.size + 1 + 1 + 1 + 1))] 31)).alloc (.cells #[fromV (w.heap.size + 1 + 1 + 1 + 1 + 1) (w.heap.size + 1 + 1 + 1) w.heap.size (w.heap.size + 1) (w.heap.size + 1 + 1) (w.heap.size + 1 + 1 + 1 + 1 + 1 + 1)] 114)
theorem boxesO_ps (w : World) (o : Nat) (nv mv : Value) (P : List Nat) : PS w (boxesO w o nv mv) o (w.heap.size + 1 + 1 + 1 + 1 + 1) (w.heap.size + 1 + 1 + 1) w.heap.size (w.heap.size + 1) (w.heap.size + 1 + 1) (w.heap.size + 1 + 1 + 1 + 1 + 1 + 1) (w.heap.size + 1 + 1 + 1 + 1) nv mv P [] [] where
  low := (((((((Below.refl w.heap.size w).alloc (Nat.le_refl _) _).alloc (by simp) _).alloc (by simp; omega) _).alloc (by simp; omega) _).alloc (by simp; omega) _).alloc (by simp; omega) _).alloc (by simp; omega) _
  hm := (Blk.new_ _ 31 _ (by simp)).alloc _
  ho := ((((((Blk.new_ w 23 _ rfl).alloc _).alloc _).alloc _).alloc _).alloc _).alloc _
  hx := (((((Blk.new_ _ 97 _ (by simp)).alloc _).alloc _).alloc _).alloc _).alloc _
  hf := ((((Blk.new_ _ 82 _ (by simp)).alloc _).alloc _).alloc _).alloc _
  hq := Blk.new_ _ 114 _ (by simp)
  hu := ⟨.slice none 0 0, (((Blk.new_ _ 27 _ (by simp)).alloc _).alloc _).alloc _, own_nil _ _ _⟩
  hmap := by
    have h := World.ownsMap_made (H := Unit) ((((w.alloc (.cells #[.pointer (some ⟨o, 0, none⟩)] 23)).alloc (.cells #[nv] 97)).alloc (.cells #[mv] 82)).alloc (.cells #[.slice none 0 0] 27)) Try.prog 3 (plainElem Try.prog 3)
    have e : (w.heap.size + 1 + 1 + 1 + 1) = ((((w.alloc (.cells #[.pointer (some ⟨o, 0, none⟩)] 23)).alloc (.cells #[nv] 97)).alloc (.cells #[mv] 82)).alloc (.cells #[.slice none 0 0] 27)).heap.size := by simp
    rw [e]
    refine ⟨_, om_keep (om_keep h (Below.heap_alloc _ _ _ (by simp))) (Below.heap_alloc _ _ _ (by simp)), InMap.nil⟩
  farU := by omega
  farM := by omega
set_option maxRecDepth 100000 in
set_option maxHeartbeats 4000000 in
theorem part_any (w0 : World) (base o n g bh : Nat) (fN fM : FuncId) (F Fg : Nat → Prop) (L : List (List Int)) (P A : List Nat) (vp va : Value) (hO : OParts w0 base F o n L P A g vp va Fg) (hP : Perm n P A) (hn : n ≤ 30000) (nx : Nat → List Int) (qp : Nat → Bool) (hNM : NM w0 fN fM g bh n nx qp) (v : Nat) (hv : v < n) :
    Calls Try.prog 66 #[.pointer (some ⟨o, 0, none⟩), .int .i64 (v : Nat), .func (.func fN) #[.pointer (some ⟨g, 0, none⟩)] #[], .func (.func fM) #[] #[.pointer (some ⟨bh, 0, none⟩)]] w0 (PartOut w0 nx (fun y => qp (P.getD y 0)) P v) := by
  have hB := boxesO_ps w0 o (nextV fN g) (mayV fM bh) P
  have HE := Lib.hid (goes w0 base o _ _ _ _ _ _ _ n g bh fN fM F Fg L P A vp va hO hP hn nx qp hNM n [] _ v hB hv (by simp) List.nodup_nil (by simp) (by simp))
  have c6 : (boxesO w0 o (nextV fN g) (mayV fM bh)).cell? ⟨w0.heap.size + 1 + 1 + 1 + 1 + 1 + 1, 0, none⟩ = some (fromV (w0.heap.size + 1 + 1 + 1 + 1 + 1) (w0.heap.size + 1 + 1 + 1) w0.heap.size (w0.heap.size + 1) (w0.heap.size + 1 + 1) (w0.heap.size + 1 + 1 + 1 + 1 + 1 + 1)) := hB.hq.at_ 0 rfl
  have hsf : ∀ (a : Addr) (fn : Fn) (fs cap : Array Value) (m) (W : World), (store a (.func fn fs cap) m).run Try.prog W = stored Try.prog W a (.func fn fs cap) m := fun a _ _ _ m W => run_store Try.prog W a _ m rfl
  have hmm := @run_makeMap Try.prog
  have HP := Lib.hid hP
  have hn' : n ≤ 30000 := hn
  unfold boxesO fromV at c6
  unfold boxesO at HE
  unfold fromV at HE
  clear hO hNM hB hP hn
  go_enter Try.func66, Try.ntmps66
  go_wp2_with fail
  refine Calls.mono HE.out ?_
  rintro e w1 ⟨K', rfl, q1, q2, q3, -⟩
  clear HE c6 hsf hmm
  obtain ⟨uv, u1, u2⟩ := q1.hu
  have hlen := nodup_le q2.nodup q3
  have HQ2 := Lib.hid q2
  have HQ3 := Lib.hid q3
  have HS := Lib.hid (sort_any w1 w0.heap.size uv (zs (pls P K')) (by
    obtain ⟨t, e⟩ := q2.pre
    intro e2
    have := congrArg List.length e2
    rw [zs_length, pls_length, e] at this
    simp at this) (by rw [zs_length, pls_length]; omega) (by rw [zs_length]; exact u2))
  have HNE : Hid (uv.ownBlock ≠ some (w0.heap.size + 1 + 1 + 1)) := Lib.hid (own_blk_ne u2 u1 (by decide))
  obtain ⟨Au, cu, hvu⟩ := own_form u2
  subst hvu
  have HU1 := Lib.hid u1
  have HL := Lib.hid q1.low
  have HOW := Lib.hid u2
  have c9 := u1.at_ 0 rfl
  clear q1 q2 q3 u1 u2 hlen
  generalize hm : (pls P K').length = m at *
  have HM := Lib.hid hm
  clear hm
  go_wp2_with fail
  refine Calls.mono HS.out ?_
  rintro e w2 ⟨rfl, o2, g2⟩
  have c10 : w2.cell? ⟨w0.heap.size + 1 + 1 + 1, 0, none⟩ = some (.slice Au m cu) := (HU1.out.grown g2 (fun e => HNE.out e.symm)).at_ 0 rfl
  have HF : Hid (PartOut w0 nx (fun y => qp (P.getD y 0)) P v (.returned (.slice Au m cu)) w2) := Lib.hid (by
    obtain ⟨l, e1, e2, e3⟩ := zs_sorted (pls P K')
    refine ⟨l, HQ2.out.part HP.out HQ3.out e2 e3, ?_⟩
    unfold srt at o2
    rw [e1, zs_length] at o2
    have e4 : l.length = m := by rw [e2.length_eq, HM.out]
    refine ⟨_, rfl, ?_, HL.out.grown g2 HL.out.size (fun j hj => (own_row HOW.out hj).1)⟩
    rw [zs_length, e4]
    rw [HM.out] at o2
    exact o2)
  clear HS HU1 HL HOW o2 g2 c9 HQ2 HQ3
  go_wp2_with fail
  go_ret
  exact HF.out
end Go.Proofs.Ytelplccbcbegkaa.OrW
