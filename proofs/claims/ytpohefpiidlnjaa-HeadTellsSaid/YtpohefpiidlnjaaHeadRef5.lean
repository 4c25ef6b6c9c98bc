/-
  The walk of the document's Save.
-/
import Derived.Test.YtpohefpiidlnjaaHeadRef4
namespace Go.Proofs.Ytpohefpiidlnjaa.Hr
set_option linter.unusedVariables false
open Go Go.RowKit Go.Proofs Go.Proofs.Ytpohefpiidlnjaa Go.Proofs.Ytpohefpiidlnjaa.Wd
open Go.Proofs.Ytpohefpiidlnjaa.Hd (H Wf le8 un8 le8_length)
open Go.Proofs.Ytpohefpiidlnjaa.HdW (readR hv loadR saveR bytesR)
open Go.Proofs.Ytpohefpiidlnjaa.Dk (DS Ok hd wrD shD upd upd_eq upd_ne putS syS sySs)
open Go.Proofs.Ytpohefpiidlnjaa.Dr (Sl RV rval rcells Ref Turned)
theorem run_cells_row {P : Program} {w : World} {g : Nat} {t : TypeId} {old cs : Array Value} (hg : Blk w g t old) (hs : old.size = cs.size) (h1 : ∀ u ∈ cs.toList, u.oneCell' = true) : (storeCells ⟨g, 0, none⟩ cs.toList).run P w = .ok () (w.setRow g cs) := by
  have := run_storeCells_from (P := P) g t cs.toList 0 old w hg (by simp; omega) (fun v hv => h1 v hv)
  simpa [hs] using this
/-- Three results, the first two of them rows that lie in memory. -/
theorem results_cells2 {P : Program} {fn : Func} {p q t : Tmp} {ty tz : TypeId} (h : fn.results = #[.cell p ty, .cell q tz, .tmp t]) (tmps : Array Value) (w : World) (g g' : Nat) (te te' : TypeId) (cs cs' : Array Value) (fr fr' : Nat × Nat) (d d' : TypeDesc)
    (hp : tmps.getD p undef = .pointer (some ⟨g, 0, none⟩)) (hq : tmps.getD q undef = .pointer (some ⟨g', 0, none⟩)) (hg : w.heap[g]? = some (.cells cs te fr)) (hg' : w.heap[g']? = some (.cells cs' te' fr'))
    (hu : P.underlying ty = some d) (hd : (match d with | .struct _ | .array _ _ => true | _ => false) = true) (hu' : P.underlying tz = some d') (hd' : (match d' with | .struct _ | .array _ _ => true | _ => false) = true) (hi : (P.info? ty).map (·.size) = some cs.size) (hi' : (P.info? tz).map (·.size) = some cs'.size) :
    (results fn tmps).run P w = .ok (.tuple #[.agg cs, .agg cs', tmps.getD t undef]) w := by
  have hp' : tmps[p]?.getD undef = .pointer (some ⟨g, 0, none⟩) := by simpa using hp
  have hq' : tmps[q]?.getD undef = .pointer (some ⟨g', 0, none⟩) := by simpa using hq
  simp [results, h, hp', hq', asAddr, run_loadVar_row w g te ty cs fr d hg hu hd hi, run_loadVar_row w g' te' tz cs' fr' d' hg' hu' hd' hi']
/-- What Save answers, and leaves. -/
def Saved (F : Nat → Prop) (r : (H × Nat) × DS) (w : World) (e : Ending) (w' : World) : Prop := (∃ (v : Nat → Sl) (cl k : Int), e = .returned (.tuple #[rval r.2 v cl k, .agg (hv r.1.1), .int .i64 (r.1.2 : Nat)]) ∧ RV w' F r.2 v cl k) ∧ Below w.heap.size w w'
def Quad (F : Nat → Prop) (b : Nat) : Nat → Prop := fun j => F j ∨ (b ≤ j ∧ j ≤ b + 3)
/-- Save under way: its boxes. -/
structure SV (hc : Array Value) (F : Nat → Prop) (w w1 : World) (X : Array Value) (t : DS) (v : Nat → Sl) (cl k : Int) : Prop where
  box : Blk w1 w.heap.size 69 X
  hbox : Blk w1 (w.heap.size + 1) 24 hc
  res : Blk w1 (w.heap.size + 2) 69 #[.int .i64 0, .slice none 0 0, .slice none 0 0, .slice none 0 0, .slice none 0 0, .slice none 0 0, .slice none 0 0, .slice none 0 0, .slice none 0 0, .bool false, .int .i64 0, .int .i64 0, .bool false] ∧ Blk w1 (w.heap.size + 3) 24 #[.int .u64 0, .int .u64 0, .int .u8 0]
  low : Below w.heap.size w w1
  rv : RV w1 (Quad F w.heap.size) t v cl k
  lt : ∀ j, Quad F w.heap.size j → j < w1.heap.size
section
variable {hc : Array Value} {w w1 w2 : World} {F : Nat → Prop} {X : Array Value} {t : DS} {v : Nat → Sl} {cl k : Int}
theorem SV.start {s : DS} (h : RV w F s v cl k) (hF : ∀ j, F j → j < w.heap.size) : SV hc F w ((((w.alloc (.cells X 69)).alloc (.cells hc 24)).alloc (.cells #[.int .i64 0, .slice none 0 0, .slice none 0 0, .slice none 0 0, .slice none 0 0, .slice none 0 0, .slice none 0 0, .slice none 0 0, .slice none 0 0, .bool false, .int .i64 0, .int .i64 0, .bool false] 69)).alloc (.cells #[.int .u64 0, .int .u64 0, .int .u8 0] 24)) X s v cl k where
  box := (((Blk.new_ w 69 X rfl).alloc _).alloc _).alloc _
  hbox := ((Blk.new_ (w.alloc (.cells X 69)) 24 hc (n := w.heap.size + 1) (by simp)).alloc _).alloc _
  res := ⟨(Blk.new_ ((w.alloc (.cells X 69)).alloc (.cells hc 24)) 69 #[.int .i64 0, .slice none 0 0, .slice none 0 0, .slice none 0 0, .slice none 0 0, .slice none 0 0, .slice none 0 0, .slice none 0 0, .slice none 0 0, .bool false, .int .i64 0, .int .i64 0, .bool false] (n := w.heap.size + 2) (by simp)).alloc _, Blk.new_ (((w.alloc (.cells X 69)).alloc (.cells hc 24)).alloc (.cells #[.int .i64 0, .slice none 0 0, .slice none 0 0, .slice none 0 0, .slice none 0 0, .slice none 0 0, .slice none 0 0, .slice none 0 0, .slice none 0 0, .bool false, .int .i64 0, .int .i64 0, .bool false] 69)) 24 #[.int .u64 0, .int .u64 0, .int .u8 0] (n := w.heap.size + 3) (by simp)⟩
  low := ((((Below.refl _ w).alloc (Nat.le_refl _) _).alloc (by simp) _).alloc (by simp; omega) _).alloc (by simp; omega) _
  rv := ((((h.less (G := Quad F w.heap.size) (fun j hj => by rcases hj with h | ⟨h, -⟩; exact .inl h; exact .inr h)).below ((Below.refl _ w).alloc (Nat.le_refl _) _)).below ((Below.refl _ _).alloc (Nat.le_refl _) _)).below ((Below.refl _ _).alloc (Nat.le_refl _) _)).below ((Below.refl _ _).alloc (Nat.le_refl _) _)
  lt j hj := by
    simp only [World.size_alloc]
    rcases hj with hj | hj
    · have := hF j hj; omega
    · omega
theorem SV.below (h : SV hc F w w1 X t v cl k) (hb : Below w1.heap.size w1 w2) : SV hc F w w2 X t v cl k :=
  ⟨h.box.below hb h.box.lt, h.hbox.below hb h.hbox.lt, ⟨h.res.1.below hb h.res.1.lt, h.res.2.below hb h.res.2.lt⟩, h.low.trans (hb.mono h.low.size), h.rv.below hb, fun j hj => Nat.lt_of_lt_of_le (h.lt j hj) hb.size⟩
/-- The document's answer is kept. -/
theorem SV.turn (h : SV hc F w w1 X t v cl k) (hb : Below w1.heap.size w1 w2) {t' : DS} {v' : Nat → Sl} {cl' k' : Int} (hr : RV w2 (Quad F w.heap.size) t' v' cl' k') (X2 : Array Value) : SV hc F w (w2.setRow w.heap.size X2) X2 t' v' cl' k' := by
  have h2 := h.below hb
  have hf : Fr (fun j => j = w.heap.size) w2 (w2.setRow w.heap.size X2) := ⟨rfl, rfl, rfl, by simp, fun j hj hne => setRow_other w2 _ j _ hne⟩
  exact ⟨h2.box.row X2, h2.hbox.rowFar (by omega) X2, ⟨h2.res.1.rowFar (by omega) X2, h2.res.2.rowFar (by omega) X2⟩, Dr.below_row h2.low (Nat.le_refl _) X2, hr.fr hf (fun j hj => .inl (.inr ⟨Nat.le_of_eq (Eq.symm hj), by omega⟩)), fun j hj => by simpa using h2.lt j hj⟩
theorem SV.out (h : SV hc F w w1 X t v cl k) (hX : X = rcells t v cl k) (x : H) (c : Nat) (xc : Array Value) (hx : xc = hv x) : Saved F ((x, c), t) w (.returned (.tuple #[.agg X, .agg xc, .int .i64 (c : Nat)])) ((w1.setRow (w.heap.size + 2) X).setRow (w.heap.size + 3) xc) := by
  have hf : Fr (fun j => j = w.heap.size + 2) w1 (w1.setRow (w.heap.size + 2) X) := ⟨rfl, rfl, rfl, by simp, fun j hj hne => setRow_other w1 _ j _ hne⟩
  have hf2 : Fr (fun j => j = w.heap.size + 3) (w1.setRow (w.heap.size + 2) X) ((w1.setRow (w.heap.size + 2) X).setRow (w.heap.size + 3) xc) := ⟨rfl, rfl, rfl, by simp, fun j hj hne => setRow_other _ _ j _ hne⟩
  exact ⟨⟨v, cl, k, by rw [hX, hx]; rfl, ((h.rv.fr hf (fun j hj => .inl (.inr ⟨by omega, by omega⟩))).fr hf2 (fun j hj => .inl (.inr ⟨by omega, by omega⟩))).less fun j hj => .inl (.inl hj)⟩, Dr.below_row (Dr.below_row h.low (by omega) _) (by omega) _⟩
end
theorem putS_ok {s : DS} (h : Ok s) {i : Nat} {b : List UInt8} (hb : b.length = 32) : Ok (putS i b s) := by
  refine ⟨h.cap, h.room, h.safe, h.sl, fun j hj => ?_, h.fuse⟩
  show (upd s.lo i b j).length = 32
  by_cases e : j = i
  · subst e; rw [upd_eq]; exact hb
  · rw [upd_ne e]; exact h.lo j hj
theorem wrD_ok {s : DS} (h : Ok s) (i : Int) {b : List UInt8} : Ok (wrD s i b).2 := by
  unfold Dk.wrD
  split
  · exact h
  · split
    · exact h
    · split
      · rename_i hb
        rw [Dr.after_r (s := s) (f := putS i.toNat b) (fl := fun _ s => s) (fun _ => rfl) (fun _ => rfl)]
        split
        · exact Dr.killed_ok h
        · exact putS_ok (Dr.killed_ok h) hb
      · exact h
set_option maxRecDepth 100000 in
set_option maxHeartbeats 8000000 in
theorem rsave {w : World} {F : Nat → Prop} {s : DS} {v : Nat → Sl} {cl kk : Int} (ok : Ok s) (h : RV w F s v cl kk) (hF : ∀ j, F j → j < w.heap.size) (a e l k : Nat) (hk : k = (a + 1) % 18446744073709551616) (wa : a < 18446744073709551616) (we : e < 18446744073709551616) (wl : l < 256) :
    Calls Try.prog 28 #[rval s v cl kk, .agg #[.int .u64 a, .int .u64 e, .int .u8 l]] w (Saved F (saveR s ⟨k, e, l⟩) w) := by
  obtain ⟨X, hX⟩ : ∃ X, X = rcells s v cl kk := ⟨_, rfl⟩
  unfold Dr.rval
  rw [← hX]
  have HX := Lib.hid hX
  have hS := SV.start (hc := #[.int .u64 (k : Nat), .int .u64 (e : Nat), .int .u8 (l : Nat)]) (X := X) h hF
  have Y : Hid (IntKind.u64.wrap ((a : Int) + 1) = (k : Int)) := Lib.hid (by rw [IntKind.wrap_u64]; omega)
  have wk : Wf ⟨k, e, l⟩ := ⟨by show k < _; omega, we, wl⟩
  have HOK := Lib.hid ok
  have HBYT := Lib.hid (fun W => rbytes k e l wk W)
  have HM2 := Lib.hid (show ((k : Nat) : Int).tmod 2 = ((k % 2 : Nat) : Int) from mod2 k)
  have HW2 := Lib.hid (wrap2 k)
  have HI2 : Hid (IntKind.i64.wrap ((k % 2 : Nat) : Int) = ((k % 2 : Nat) : Int)) := Lib.hid (IntWalk.i64_in _ (by omega))
  clear hX h hF ok
  go_enter Try.func28, Try.ntmps28
  go_upto_region 2 with fail
  rw [Y.out]
  generalize ((((w.alloc (.cells X 69)).alloc (.cells #[.int .u64 (k : Nat), .int .u64 (e : Nat), .int .u8 (l : Nat)] 24)).alloc (.cells #[.int .i64 0, .slice none 0 0, .slice none 0 0, .slice none 0 0, .slice none 0 0, .slice none 0 0, .slice none 0 0, .slice none 0 0, .slice none 0 0, .bool false, .int .i64 0, .int .i64 0, .bool false] 69)).alloc (.cells #[.int .u64 0, .int .u64 0, .int .u8 0] 24)) = w0 at *
  clear Y hk wa
  have HS := Lib.hid hS
  clear hS
  have f0 := HS.out.hbox.at_ 0 (v := .int .u64 (k : Nat)) rfl
  have f1 := HS.out.hbox.at_ 1 (v := .int .u64 (e : Nat)) rfl
  have f2 := HS.out.hbox.at_ 2 (v := .int .u8 (l : Nat)) rfl
  go_wp2_with fail
  refine Calls.mono (HBYT.out _) ?_
  rintro en w1 ⟨A, c, rfl, hl, hm, hJ, hb, hfr⟩
  have HS1 := Lib.hid (HS.out.below hb)
  clear hb HS HBYT f0 f1 f2 hfr
  have HS := HS1
  clear HS1
  cases hr : Hd.right ⟨k, e, l⟩
  · have HBR : bytesR ⟨k, e, l⟩ = ([], 50) := by unfold HdW.bytesR; rw [hr]; rfl
    have HR : Hid (saveR s ⟨k, e, l⟩ = ((Hd.none_, 50), s)) := Lib.hid (by unfold HdW.saveR; rw [if_pos hr])
    rw [HBR] at hJ hl ⊢
    clear hr HBR hJ
    have HO := Lib.hid (HS.out.out HX.out Hd.none_ (50) #[.int .u64 0, .int .u64 0, .int .u8 0] rfl)
    rw [← HR.out] at HO
    go_wp2_with (first | (refine wpList_load_row rfl 69 (.tmp 2) rfl w.heap.size rfl 69 X _ _ HS.out.box.out Try.underlying69 rfl (by rw [Dr.rx_size HX.out]; kernel_rfl) ?_) | (refine wpList_put_row rfl rfl 69 (.tmp 4) _ rfl (w.heap.size + 2) rfl 69 _ X rfl HS.out.res.1 (by rw [Dr.rx_size HX.out]; kernel_rfl) (by rw [Dr.rx_size HX.out]; rfl) (Dr.rx_one HX.out) ?_) | (refine wpList_put_row rfl rfl 24 (.tmp 5) _ rfl (w.heap.size + 3) rfl 24 _ #[.int .u64 0, .int .u64 0, .int .u8 0] rfl (HS.out.res.2.rowFar (by omega) X) (by kernel_rfl) rfl (hv_one ⟨0, 0, 0⟩) ?_))
    refine bodyPost_ret (results_cells2 rfl _ _ (w.heap.size + 2) (w.heap.size + 3) 69 24 X #[.int .u64 0, .int .u64 0, .int .u8 0] (0, 0) (0, 0) _ _ rfl rfl ((HS.out.res.1.row X).rowFar (by omega) _).out ((HS.out.res.2.rowFar (by omega) X).row #[.int .u64 0, .int .u64 0, .int .u8 0]).out Try.underlying69 rfl Try.underlying24 rfl (by rw [Dr.rx_size HX.out]; kernel_rfl) (by kernel_rfl)) rfl ?_
    exact HO.out
  have HBR : bytesR ⟨k, e, l⟩ = (Hd.bytes ⟨k, e, l⟩, 0) := by unfold HdW.bytesR; rw [hr]; rfl
  rw [HBR] at hJ hl ⊢
  have HJ := Lib.hid hJ
  have HLB : Hid (32 = (Hd.bytes ⟨k, e, l⟩).length) := Lib.hid rfl
  have hl32 : 32 ≤ c := hl
  have HR : Hid (saveR s ⟨k, e, l⟩ = if (wrD s (k % 2 : Nat) (Hd.bytes ⟨k, e, l⟩)).1 = 0 then (if (shD (wrD s (k % 2 : Nat) (Hd.bytes ⟨k, e, l⟩)).2).1 = 0 then ((⟨k, e, l⟩, 0), (shD (wrD s (k % 2 : Nat) (Hd.bytes ⟨k, e, l⟩)).2).2) else ((Hd.none_, (shD (wrD s (k % 2 : Nat) (Hd.bytes ⟨k, e, l⟩)).2).1), (shD (wrD s (k % 2 : Nat) (Hd.bytes ⟨k, e, l⟩)).2).2)) else ((Hd.none_, (wrD s (k % 2 : Nat) (Hd.bytes ⟨k, e, l⟩)).1), (wrD s (k % 2 : Nat) (Hd.bytes ⟨k, e, l⟩)).2)) := Lib.hid (by unfold HdW.saveR; rw [if_neg (by rw [hr]; simp)])
  have HWO := Lib.hid (wrD_ok HOK.out ((k % 2 : Nat) : Int) (b := Hd.bytes ⟨k, e, l⟩))
  clear hr HBR hJ hl
  generalize (Hd.bytes ⟨k, e, l⟩).length = n32 at *
  obtain rfl : n32 = 32 := HLB.out.symm
  have f0 := HS.out.hbox.at_ 0 (v := .int .u64 (k : Nat)) rfl
  have m2 := HM2.out
  have m3 := HW2.out
  have m4 := HI2.out
  have HCW := Lib.hid (Dr.rwrite (c := c) HOK.out HS.out.rv HS.out.lt ((k % 2 : Nat) : Int) HLB.out HJ.out)
  generalize wrD s ((k % 2 : Nat) : Int) (Hd.bytes ⟨k, e, l⟩) = r1 at *
  generalize k % 2 = k2 at *
  unfold Dr.rval at HCW
  rw [← HX.out] at HCW
  go_wp2_with (refine wpList_load_row rfl 69 (.tmp 2) rfl w.heap.size rfl 69 X _ _ HS.out.box.out Try.underlying69 rfl (by rw [Dr.rx_size HX.out]; kernel_rfl) ?_)
  refine Calls.mono HCW.out ?_
  rintro en w2 ⟨⟨v2, cl2, k3, rfl, hrv⟩, hb2⟩
  obtain ⟨X2, hX2⟩ : ∃ X2, X2 = rcells r1.2 v2 cl2 k3 := ⟨_, rfl⟩
  unfold Dr.rval
  rw [← hX2]
  have HX2 := Lib.hid hX2
  have HS2 := Lib.hid (HS.out.turn hb2 hrv X2)
  have HSB := Lib.hid (HS.out.below hb2)
  clear hX2 hrv hb2
  go_upto_region 6 with (refine wpList_put_row rfl rfl 69 (.tmp 2) _ rfl w.heap.size rfl 69 X X2 rfl HSB.out.box (by rw [Dr.rx_size HX2.out]; kernel_rfl) (by rw [Dr.rx_size HX.out, Dr.rx_size HX2.out]) (Dr.rx_one HX2.out) ?_)
  clear HS HX HSB
  have HS := HS2
  have HX := HX2
  clear HS2 HX2
  generalize w2.setRow w.heap.size X2 = w2' at *
  generalize X2 = X at *
  clear HCW HJ f0 m2 m3 m4 HM2 HW2 HI2
  by_cases h1 : r1.1 = 0
  rotate_left
  · rw [if_neg h1] at HR
    have u1 : (((r1.1 : Nat) : Int) == 0) = false := by rw [beq_eq_false_iff_ne]; omega
    have u2 : (((r1.1 : Nat) : Int) != 0) = true := by rw [bne_iff_ne]; omega
    have u3 : ¬ ((r1.1 : Nat) : Int) = 0 := by omega
    clear h1
    have HO := Lib.hid (HS.out.out HX.out Hd.none_ (r1.1) #[.int .u64 0, .int .u64 0, .int .u8 0] rfl)
    rw [← HR.out] at HO
    go_wp2_with (first | (refine wpList_load_row rfl 69 (.tmp 2) rfl w.heap.size rfl 69 X _ _ HS.out.box.out Try.underlying69 rfl (by rw [Dr.rx_size HX.out]; kernel_rfl) ?_) | (refine wpList_put_row rfl rfl 69 (.tmp 4) _ rfl (w.heap.size + 2) rfl 69 _ X rfl HS.out.res.1 (by rw [Dr.rx_size HX.out]; kernel_rfl) (by rw [Dr.rx_size HX.out]; rfl) (Dr.rx_one HX.out) ?_) | (refine wpList_put_row rfl rfl 24 (.tmp 5) _ rfl (w.heap.size + 3) rfl 24 _ #[.int .u64 0, .int .u64 0, .int .u8 0] rfl (HS.out.res.2.rowFar (by omega) X) (by kernel_rfl) rfl (hv_one ⟨0, 0, 0⟩) ?_))
    refine bodyPost_ret (results_cells2 rfl _ _ (w.heap.size + 2) (w.heap.size + 3) 69 24 X #[.int .u64 0, .int .u64 0, .int .u8 0] (0, 0) (0, 0) _ _ rfl rfl ((HS.out.res.1.row X).rowFar (by omega) _).out ((HS.out.res.2.rowFar (by omega) X).row #[.int .u64 0, .int .u64 0, .int .u8 0]).out Try.underlying69 rfl Try.underlying24 rfl (by rw [Dr.rx_size HX.out]; kernel_rfl) (by kernel_rfl)) rfl ?_
    exact HO.out
  rw [if_pos h1] at HR
  have u1 : (((r1.1 : Nat) : Int) == 0) = true := by rw [h1]; rfl
  clear h1
  have HCS := Lib.hid (Dr.rsyncHead HWO.out HS.out.rv HS.out.lt)
  unfold Dr.rval at HCS
  rw [← HX.out] at HCS
  go_wp2_with (refine wpList_load_row rfl 69 (.tmp 2) rfl w.heap.size rfl 69 X _ _ HS.out.box.out Try.underlying69 rfl (by rw [Dr.rx_size HX.out]; kernel_rfl) ?_)
  clear u1
  refine Calls.mono HCS.out ?_
  generalize shD r1.2 = r2 at *
  rintro en w4 ⟨⟨v3, cl3, k4, rfl, hrv⟩, hb2⟩
  obtain ⟨X2, hX2⟩ : ∃ X2, X2 = rcells r2.2 v3 cl3 k4 := ⟨_, rfl⟩
  unfold Dr.rval
  rw [← hX2]
  have HX2 := Lib.hid hX2
  have HS2 := Lib.hid (HS.out.turn hb2 hrv X2)
  have HSB := Lib.hid (HS.out.below hb2)
  clear hX2 hrv hb2
  go_upto_region 8 with (refine wpList_put_row rfl rfl 69 (.tmp 2) _ rfl w.heap.size rfl 69 X X2 rfl HSB.out.box (by rw [Dr.rx_size HX2.out]; kernel_rfl) (by rw [Dr.rx_size HX.out, Dr.rx_size HX2.out]) (Dr.rx_one HX2.out) ?_)
  clear HS HX HSB
  have HS := HS2
  have HX := HX2
  clear HS2 HX2
  generalize w4.setRow w.heap.size X2 = w3 at *
  generalize X2 = X at *
  clear HCS HWO
  by_cases h2 : r2.1 = 0
  rotate_left
  · rw [if_neg h2] at HR
    have u2 : (((r2.1 : Nat) : Int) != 0) = true := by rw [bne_iff_ne]; omega
    have u3 : ¬ ((r2.1 : Nat) : Int) = 0 := by omega
    clear h2
    have HO := Lib.hid (HS.out.out HX.out Hd.none_ (r2.1) #[.int .u64 0, .int .u64 0, .int .u8 0] rfl)
    rw [← HR.out] at HO
    go_wp2_with (first | (refine wpList_load_row rfl 69 (.tmp 2) rfl w.heap.size rfl 69 X _ _ HS.out.box.out Try.underlying69 rfl (by rw [Dr.rx_size HX.out]; kernel_rfl) ?_) | (refine wpList_put_row rfl rfl 69 (.tmp 4) _ rfl (w.heap.size + 2) rfl 69 _ X rfl HS.out.res.1 (by rw [Dr.rx_size HX.out]; kernel_rfl) (by rw [Dr.rx_size HX.out]; rfl) (Dr.rx_one HX.out) ?_) | (refine wpList_put_row rfl rfl 24 (.tmp 5) _ rfl (w.heap.size + 3) rfl 24 _ #[.int .u64 0, .int .u64 0, .int .u8 0] rfl (HS.out.res.2.rowFar (by omega) X) (by kernel_rfl) rfl (hv_one ⟨0, 0, 0⟩) ?_))
    refine bodyPost_ret (results_cells2 rfl _ _ (w.heap.size + 2) (w.heap.size + 3) 69 24 X #[.int .u64 0, .int .u64 0, .int .u8 0] (0, 0) (0, 0) _ _ rfl rfl ((HS.out.res.1.row X).rowFar (by omega) _).out ((HS.out.res.2.rowFar (by omega) X).row #[.int .u64 0, .int .u64 0, .int .u8 0]).out Try.underlying69 rfl Try.underlying24 rfl (by rw [Dr.rx_size HX.out]; kernel_rfl) (by kernel_rfl)) rfl ?_
    exact HO.out
  rw [if_pos h2] at HR
  have u2 : (((r2.1 : Nat) : Int) != 0) = false := by rw [h2]; rfl
  clear h2
  go_upto_region 10 with fail
  clear u2
  have HSD : Hid (SV #[.int .u64 (k : Nat), .int .u64 (e : Nat), .int .u8 (l : Nat)] F w w3.drew X r2.2 v3 cl3 k4) := Lib.hid (HS.out.below ((Below.refl _ w3).drew))
  obtain ⟨hx, hhx⟩ : ∃ hx, hx = hv ⟨k, e, l⟩ := ⟨_, rfl⟩
  have HO := Lib.hid (HSD.out.out HX.out ⟨k, e, l⟩ 0 hx hhx)
  rw [← HR.out] at HO
  have HHB : Hid (Blk w3.drew (w.heap.size + 1) 24 hx) := Lib.hid (by rw [hhx]; exact HSD.out.hbox)
  have HHX := Lib.hid hhx
  clear hhx
  refine wp_region_heldG [] (fun cc W => Blk W w.heap.size 69 X ∧ Blk W (w.heap.size + 1) 24 hx) (by kernel_rfl) ?_
  change wpAnyG _ _ _ _ _ _ 5 _ _ (World.drew w3)
  have hS : Blk w3.drew w.heap.size 69 X ∧ Blk w3.drew (w.heap.size + 1) 24 hx := ⟨HSD.out.box, HHB.out⟩
  refine g_take (i := 0) rfl rfl (by kernel_rfl) (by kernel_rfl) (by kernel_rfl) (by kernel_rfl) (by kernel_rfl) (fun _ _ _ h => h) hS (fun L W hL hW => Dr.run_load_row 69 (.tmp 2) rfl w.heap.size (by go_simp) 69 X _ _ hW.1.out Try.underlying69 rfl (by rw [Dr.rx_size HX.out]; kernel_rfl)) ?_
  refine g_take (i := 1) rfl rfl (by kernel_rfl) (by kernel_rfl) (by kernel_rfl) (by kernel_rfl) (by kernel_rfl) (fun _ _ _ h => h) hS (fun L W hL hW => Dr.run_load_row 24 (.tmp 3) rfl (w.heap.size + 1) (by go_simp) 24 hx _ _ hW.2.out Try.underlying24 rfl (by rw [HHX.out]; kernel_rfl)) ?_
  refine g_one (i := 2) rfl rfl (by kernel_rfl) fun K hK => ?_
  have hst := run_cells_row (P := Try.prog) HSD.out.res.1 (by rw [Dr.rx_size HX.out]; rfl) (Dr.rx_one HX.out)
  have hsz := Dr.rx_size HX.out
  go_simp
  clear hst hsz
  have hS2 : Blk (w3.drew.setRow (w.heap.size + 2) X) w.heap.size 69 X ∧ Blk (w3.drew.setRow (w.heap.size + 2) X) (w.heap.size + 1) 24 hx := ⟨HSD.out.box.rowFar (by omega) X, HHB.out.rowFar (by omega) X⟩
  refine hK _ _ hS2 ?_
  clear hK K
  refine g_one (i := 3) rfl rfl (by kernel_rfl) fun K hK => ?_
  have hst := run_cells_row (P := Try.prog) (cs := hx) (HSD.out.res.2.rowFar (k := w.heap.size + 2) (by omega) X) (by rw [HHX.out]; rfl) (by rw [HHX.out]; exact hv_one _)
  have hsz : hx.size = 3 := by rw [HHX.out]; rfl
  go_simp
  clear hst hsz
  have hS3 : Blk ((w3.drew.setRow (w.heap.size + 2) X).setRow (w.heap.size + 3) hx) w.heap.size 69 X ∧ Blk ((w3.drew.setRow (w.heap.size + 2) X).setRow (w.heap.size + 3) hx) (w.heap.size + 1) 24 hx := ⟨hS2.1.rowFar (by omega) _, hS2.2.rowFar (by omega) _⟩
  refine hK _ _ hS3 ?_
  clear hK K
  refine g_take (i := 4) rfl rfl (by kernel_rfl) (by kernel_rfl) (by kernel_rfl) (by kernel_rfl) (by kernel_rfl) (fun _ _ _ h => h) hS3 (fun L W hL hW => by go_simp; rfl) ?_
  refine wpAnyG_done (by kernel_rfl) ?_ _
  go_simp
  go_wp2_with fail
  refine bodyPost_ret (results_cells2 rfl _ _ (w.heap.size + 2) (w.heap.size + 3) 69 24 X hx (0, 0) (0, 0) _ _ rfl rfl ((HSD.out.res.1.row X).rowFar (by omega) _).out ((HSD.out.res.2.rowFar (by omega) X).row hx).out Try.underlying69 rfl Try.underlying24 rfl (by rw [Dr.rx_size HX.out]; kernel_rfl) (by rw [HHX.out]; kernel_rfl)) rfl ?_
  exact HO.out
end Go.Proofs.Ytpohefpiidlnjaa.Hr
