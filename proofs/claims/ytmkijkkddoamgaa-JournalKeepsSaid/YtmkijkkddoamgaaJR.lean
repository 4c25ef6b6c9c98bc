/-
  Words and walks, one behind the other: RecPlain, RecWalks1, RecWalks2, RecWalks3, RecPlain2, RecKeep, RecLow, RecPlain3, RecPlain4, RecPlain5, RecForms0, RecWalks7.
-/
import Derived.Test.YtmkijkkddoamgaaJC
import Derived.Test.YtmkijkkddoamgaaJW
import Derived.BigQuiet
import Derived.Deep.QuietTactic
namespace Go.Proofs.Ytmkijkkddoamgaa.Rec
open Go.Proofs.Ytmkijkkddoamgaa.Crc (sumB sumB_lt)

def four (n : Nat) : List UInt8 := [UInt8.ofNat n, UInt8.ofNat (n / 256), UInt8.ofNat (n / 65536), UInt8.ofNat (n / 16777216)]
def number (b : List UInt8) : Nat := (b.getD 0 0).toNat + 256 * (b.getD 1 0).toNat + 65536 * (b.getD 2 0).toNat + 16777216 * (b.getD 3 0).toNat
theorem four_length (n : Nat) : (four n).length = 4 := rfl
theorem number_lt (b : List UInt8) : number b < 4294967296 := by
  unfold number
  have h0 := (b.getD 0 0).toNat_lt; have h1 := (b.getD 1 0).toNat_lt; have h2 := (b.getD 2 0).toNat_lt; have h3 := (b.getD 3 0).toNat_lt
  omega
theorem number_four {n : Nat} (h : n < 4294967296) (r : List UInt8) : number (four n ++ r) = n := by
  simp only [number, four, List.cons_append, List.getD_cons_zero, List.getD_cons_succ, UInt8.toNat_ofNat']
  omega
theorem four_number {a b c d : UInt8} : four (number [a, b, c, d]) = [a, b, c, d] := by
  have h0 := a.toNat_lt; have h1 := b.toNat_lt; have h2 := c.toNat_lt; have h3 := d.toNat_lt
  have e : ∀ (u : UInt8) (m : Nat), m % 256 = u.toNat → UInt8.ofNat m = u := fun u m hm => UInt8.toNat_inj.1 (by rw [UInt8.toNat_ofNat']; exact hm)
  simp only [number, four, List.getD_cons_zero, List.getD_cons_succ, List.cons.injEq, and_true]
  exact ⟨e _ _ (by omega), e _ _ (by omega), e _ _ (by omega), e _ _ (by omega)⟩

/-- A record: its kind, its bytes. -/
abbrev R := UInt8 × List UInt8
def fine (k : UInt8) : Bool := decide (1 ≤ k.toNat) && decide (k.toNat ≤ 2)
def rest (r : R) : List UInt8 := r.1 :: (four r.2.length ++ r.2)
def bytes (r : R) : List UInt8 := four (sumB (rest r)) ++ rest r
theorem rest_length (r : R) : (rest r).length = r.2.length + 5 := by simp [rest, four_length]; omega
theorem bytes_length (r : R) : (bytes r).length = r.2.length + 9 := by simp [bytes, four_length, rest_length]; omega
/-- How many bytes a record takes. -/
def longOf (n : Int) : Int := if 0 ≤ n ∧ n ≤ 4096 then 9 + n else 0
/-- The error of a record that may not be written; 0: none. -/
def putErr (r : R) : Nat := if fine r.1 then (if r.2.length ≤ 4096 then 0 else 31) else 30
/-- The error of bytes whose first record is none; 0: none. -/
def takeErr (b : List UInt8) : Nat :=
  if b.length < 9 then 32 else if 4096 < number (b.drop 5) then 31 else if b.length < 9 + number (b.drop 5) then 32
  else if sumB ((b.take (9 + number (b.drop 5))).drop 4) ≠ number b then 33 else if fine (b.getD 4 0) then 0 else 30
def takeEnd (b : List UInt8) : Nat := 9 + number (b.drop 5)
def takeRec (b : List UInt8) : R := (b.getD 4 0, (b.take (takeEnd b)).drop 9)
theorem takeEnd_le {b : List UInt8} (h : takeErr b = 0) : 9 ≤ b.length ∧ takeEnd b ≤ b.length ∧ number (b.drop 5) ≤ 4096 ∧ sumB ((b.take (takeEnd b)).drop 4) = number b ∧ fine (b.getD 4 0) = true := by
  unfold takeErr at h
  split at h
  · cases h
  split at h
  · cases h
  split at h
  · cases h
  split at h
  · cases h
  split at h
  · rename_i h1 h2 h3 h4 h5
    exact ⟨by omega, by unfold takeEnd; omega, by omega, by simpa [takeEnd] using h4, h5⟩
  · cases h
end Go.Proofs.Ytmkijkkddoamgaa.Rec

namespace Go.Proofs.Ytmkijkkddoamgaa.RecW
open Go.RowKit Go.Proofs Go.Proofs.Ytmkijkkddoamgaa Go.Proofs.Ytmkijkkddoamgaa.Wd Go.Proofs.Ytmkijkkddoamgaa.CrcW
open Go.Proofs.Ytmkijkkddoamgaa.Crc (sumB sumB_lt)
open Go.Proofs.Ytmkijkkddoamgaa.Rec (four number fine)

theorem infoU8 : (Try.prog.info? 5).map (fun i => (i.zero, i.size, i.bytes)) = some (some (.int .u8 0), 1, 1) := by kernel_rfl
theorem own_empty (w : World) (e : TypeId) {B : Nat} (hB : B ≤ w.heap.size) : (w.alloc (.cells #[] e)).ownsRow B e 1 (.slice (some ⟨w.heap.size, 0, none⟩) 0 0) 0 [] :=
  Blk.own (Blk.new_ w e #[] rfl) hB 0 (Nat.le_refl _) (by simp [maxLen])

theorem fours (n : Nat) (hn : n < 4294967296) : bs (four n) = [.int .u8 ((n : Int) % 256), .int .u8 ((n : Int) / 256 % 256), .int .u8 ((n : Int) / 65536 % 256), .int .u8 ((n : Int) / 16777216)] := by
  simp [bs, four, UInt8.toNat_ofNat']
  omega
theorem four_any (n : Nat) (hn : n < 4294967296) (w : World) :
    Calls Try.prog 62 #[.int .u32 n] w fun e w' => e = .returned (.slice (some ⟨w.heap.size, 0, none⟩) 4 4) ∧ w.alloc (.cells (bs (four n)).toArray 5) = w' := by
  rw [fours n hn]
  go_enter Try.func62, Try.ntmps62
  go_wp2
  go_ret
  exact ⟨rfl, rfl⟩

theorem kind_any (k : UInt8) (w : World) :
    Calls Try.prog 61 #[.int .u8 (k.toNat : Nat)] w fun e w' => e = .returned (.bool (fine k)) ∧ w = w' := by
  have hk := k.toNat_lt
  by_cases h1 : 1 ≤ k.toNat
  · by_cases h2 : k.toNat ≤ 2
    · have h3 : (1 : Int) ≤ (k.toNat : Int) := by omega
      have h4 : (k.toNat : Int) ≤ 2 := by omega
      have hf := Lib.hid (show fine k = true by unfold fine; simp [h1, h2])
      go_enter Try.func61, Try.ntmps61
      go_wp2
      go_ret
      rw [hf.out]; exact ⟨rfl, rfl⟩
    · have h3 : (1 : Int) ≤ (k.toNat : Int) := by omega
      have h4 : ¬ (k.toNat : Int) ≤ 2 := by omega
      have hf := Lib.hid (show fine k = false by unfold fine; simp [h2])
      go_enter Try.func61, Try.ntmps61
      go_wp2
      go_ret
      rw [hf.out]; exact ⟨rfl, rfl⟩
  · have h3 : ¬ (1 : Int) ≤ (k.toNat : Int) := by omega
    have hf := Lib.hid (show fine k = false by unfold fine; simp [h1])
    go_enter Try.func61, Try.ntmps61
    go_wp2
    go_ret
    rw [hf.out]; exact ⟨rfl, rfl⟩

theorem long_any (n : Int) (h1 : -9223372036854775808 ≤ n) (h2 : n ≤ 9223372036854775807) (w : World) :
    Calls Try.prog 54 #[.int .i64 n] w fun e w' => e = .returned (.int .i64 (Rec.longOf n)) ∧ w = w' := by
  by_cases h3 : n < 0
  · have hf := Lib.hid (show Rec.longOf n = 0 by unfold Rec.longOf; rw [if_neg (by omega)])
    go_enter Try.func54, Try.ntmps54
    go_wp2
    go_ret
    rw [hf.out]; exact ⟨rfl, rfl⟩
  · by_cases h4 : 4096 < n
    · have hf := Lib.hid (show Rec.longOf n = 0 by unfold Rec.longOf; rw [if_neg (by omega)])
      go_enter Try.func54, Try.ntmps54
      go_wp2
      go_ret
      rw [hf.out]; exact ⟨rfl, rfl⟩
    · have hf := Lib.hid (show Rec.longOf n = 9 + n by unfold Rec.longOf; rw [if_pos (by omega)])
      go_enter Try.func54, Try.ntmps54
      go_wp2
      go_ret
      rw [hf.out]; exact ⟨rfl, rfl⟩

theorem number_any (A : Option Addr) (c : Nat) (l : List UInt8) (n : Nat) (hn : n = l.length) (h4 : 4 ≤ l.length) (w : World) (hI : Bytes w w.heap.size A l) :
    Calls Try.prog 79 #[.slice A n c] w fun e w' => e = .returned (.int .u32 (number l : Nat)) ∧ Below w.heap.size w w' := by
  subst hn
  obtain ⟨b, off, rfl, hb, h0⟩ := hI.at_ (j := 0) (by omega)
  obtain ⟨_, _, e1, _, h1⟩ := hI.at_ (j := 1) (by omega)
  obtain ⟨_, _, e2, _, h2⟩ := hI.at_ (j := 2) (by omega)
  obtain ⟨_, _, e3, _, h3⟩ := hI.at_ (j := 3) (by omega)
  cases e1; cases e2; cases e3
  have i0 : (0 : Int) < (l.length : Int) := by omega
  have i1 : (1 : Int) < (l.length : Int) := by omega
  have i2 : (2 : Int) < (l.length : Int) := by omega
  have i3 : (3 : Int) < (l.length : Int) := by omega
  have hv : number l = l[0].toNat + 256 * l[1].toNat + 65536 * l[2].toNat + 16777216 * l[3].toNat := by
    unfold number; simp [show 0 < l.length by omega, show 1 < l.length by omega, show 2 < l.length by omega, show 3 < l.length by omega]
  rw [hv]
  rw [Nat.add_zero] at h0
  have b0 := l[0].toNat_lt; have b1 := l[1].toNat_lt; have b2 := l[2].toNat_lt; have b3 := l[3].toNat_lt
  clear hv
  generalize l[0].toNat = x0 at *
  generalize l[1].toNat = x1 at *
  generalize l[2].toNat = x2 at *
  generalize l[3].toNat = x3 at *
  have s1 : IntKind.u32.wrap ((x1 : Int) * 256) = (x1 : Int) * 256 := by rw [IntKind.wrap_u32']; omega
  have s2 : IntKind.u32.wrap ((x2 : Int) * 65536) = (x2 : Int) * 65536 := by rw [IntKind.wrap_u32']; omega
  have s3 : IntKind.u32.wrap ((x3 : Int) * 16777216) = (x3 : Int) * 16777216 := by rw [IntKind.wrap_u32']; omega
  have o1 : bits .or .u32 (x0 : Int) ((x1 : Int) * 256) = (x0 : Int) + (x1 : Int) * 256 := by
    have := u32_or_nat x0 (x1 * 256) (by omega) (by omega)
    rw [Nat.or_comm, nat_join 8 (x1 * 256) x0 (by omega) (by omega)] at this
    rw [show ((x1 * 256 : Nat) : Int) = (x1 : Int) * 256 by omega, show ((x1 * 256 + x0 : Nat) : Int) = (x0 : Int) + (x1 : Int) * 256 by omega] at this
    exact this
  have o2 : bits .or .u32 ((x0 : Int) + (x1 : Int) * 256) ((x2 : Int) * 65536) = (x0 : Int) + (x1 : Int) * 256 + (x2 : Int) * 65536 := by
    have := u32_or_nat (x0 + x1 * 256) (x2 * 65536) (by omega) (by omega)
    rw [Nat.or_comm, nat_join 16 (x2 * 65536) (x0 + x1 * 256) (by omega) (by omega)] at this
    rw [show ((x0 + x1 * 256 : Nat) : Int) = (x0 : Int) + (x1 : Int) * 256 by omega, show ((x2 * 65536 : Nat) : Int) = (x2 : Int) * 65536 by omega, show ((x2 * 65536 + (x0 + x1 * 256) : Nat) : Int) = (x0 : Int) + (x1 : Int) * 256 + (x2 : Int) * 65536 by omega] at this
    exact this
  have o3 : bits .or .u32 ((x0 : Int) + (x1 : Int) * 256 + (x2 : Int) * 65536) ((x3 : Int) * 16777216) = (x0 : Int) + (x1 : Int) * 256 + (x2 : Int) * 65536 + (x3 : Int) * 16777216 := by
    have := u32_or_nat (x0 + x1 * 256 + x2 * 65536) (x3 * 16777216) (by omega) (by omega)
    rw [Nat.or_comm, nat_join 24 (x3 * 16777216) (x0 + x1 * 256 + x2 * 65536) (by omega) (by omega)] at this
    rw [show ((x0 + x1 * 256 + x2 * 65536 : Nat) : Int) = (x0 : Int) + (x1 : Int) * 256 + (x2 : Int) * 65536 by omega, show ((x3 * 16777216 : Nat) : Int) = (x3 : Int) * 16777216 by omega, show ((x3 * 16777216 + (x0 + x1 * 256 + x2 * 65536) : Nat) : Int) = (x0 : Int) + (x1 : Int) * 256 + (x2 : Int) * 65536 + (x3 : Int) * 16777216 by omega] at this
    exact this
  go_enter Try.func79, Try.ntmps79
  go_wp2
  go_quiet (fail)
  go_wp2
  go_ret
  refine ⟨ret_u32 ?_, ⟨rfl, rfl, rfl, Nat.le_refl _, fun _ _ => rfl⟩⟩
  omega
end Go.Proofs.Ytmkijkkddoamgaa.RecW

namespace Go.Proofs.Ytmkijkkddoamgaa.RecW
open Go.RowKit Go.Proofs Go.Proofs.Ytmkijkkddoamgaa Go.Proofs.Ytmkijkkddoamgaa.Wd Go.Proofs.Ytmkijkkddoamgaa.CrcW
open Go.Proofs.Ytmkijkkddoamgaa.Crc (sumB sumB_lt)
open Go.Proofs.Ytmkijkkddoamgaa.Rec (four number fine takeErr takeEnd takeRec putErr)

/-- A slice of bytes in memory of the call's own. -/
def Fresh (w : World) (n : Nat) (l : List UInt8) (e : Ending) (w' : World) : Prop :=
  ∃ v, e = .returned v ∧ w'.ownsRow w.heap.size 5 1 v n (bs l) ∧ Below w.heap.size w w'

theorem clone_any (A : Option Addr) (c : Nat) (l : List UInt8) (n : Nat) (hn : n = l.length) (hc : l.length ≤ 1000000) (w : World) (hI : Bytes w w.heap.size A l) :
    Calls Try.prog 50 #[.slice A n c] w (Fresh w n l) := by
  subst hn
  obtain ⟨i0, hi0, hz0, hz1, hz2⟩ := info_parts infoU8
  cases A with
  | none =>
    have hl : l = [] := by
      rcases l with _ | ⟨x, r⟩
      · rfl
      · obtain ⟨b, off, h, _⟩ := hI.at_ (j := 0) (by simp)
        cases h
    subst hl
    have he := fun (W : World) => Lib.run_eql_slice_nil (P := Try.prog) W 23 5 none 0 c 0 0 Try.underlying23
    go_enter Try.func50, Try.ntmps50
    go_wp2
    go_ret
    exact ⟨_, rfl, own_nil _ _ _, Below.refl _ _⟩
  | some ad =>
    have he := fun (W : World) => Lib.run_eql_slice_nil (P := Try.prog) W 23 5 (some ad) l.length c 0 0 Try.underlying23
    go_enter Try.func50, Try.ntmps50
    go_wp2_with (at_builtin; refine wpList_append_row _ rfl (.tmp 5) (.tmp 6) _ rfl w.heap.size 5 i0 _ 1 Try.underlying23 hi0 hz0 hz1 hz2 rfl _ 0 [] rfl (by exact own_empty _ _ (Nat.le_refl _)) w.heap.size (some ad) l.length c (bs l) rfl (bs_length l).symm (by exact hI.alloc (Nat.le_refl _) _) (bs_one l) (by unfold maxLen; omega) (by omega) (by simp) ?_)
    intro v1 w1 hown hgrow _ _
    have hB1 : Below w.heap.size w w1 := ((Below.refl _ w).alloc (Nat.le_refl _) _).grown hgrow (by simp) (by simp [Value.ownBlock])
    go_wp2
    go_ret
    exact ⟨_, rfl, hown, hB1⟩

theorem sum_any' (A : Option Addr) (cap : Nat) (zs : List UInt8) (k : Nat) (hk : k = zs.length) (hreach : zs.length ≤ 140737488351232) (w : World) (hI : Bytes w w.heap.size A zs) :
    Calls Try.prog 63 #[.slice A k cap] w fun e W' => e = .returned (.int .u32 (sumB zs : Nat)) ∧ Below w.heap.size w W' := by
  subst hk; exact sum_any A cap zs hreach w hI
/-- What Take answers. -/
def Took (w : World) (b : List UInt8) (e : Ending) (w' : World) : Prop :=
  ∃ (k : UInt8) (d : List UInt8) (v : Value) (n : Nat), e = .returned (.tuple #[.agg #[.int .u8 (k.toNat : Nat), v], .int .i64 n, .int .i64 (takeErr b : Nat)]) ∧ Below w.heap.size w w' ∧ w'.ownsRow w.heap.size 5 1 v d.length (bs d) ∧
    (takeErr b = 0 → (k, d) = takeRec b ∧ n = takeEnd b) ∧ (takeErr b ≠ 0 → k = 0 ∧ v = .slice none 0 0 ∧ d = [] ∧ n = 0)
theorem Took.err {w w' : World} {b : List UInt8} {e : Ending} (he : takeErr b ≠ 0) (h : e = .returned (.tuple #[.agg #[.int .u8 0, .slice none 0 0], .int .i64 0, .int .i64 (takeErr b : Nat)])) (hB : Below w.heap.size w w') : Took w b e w' :=
  ⟨0, [], _, 0, h, hB, own_nil _ _ _, fun h => absurd h he, fun _ => ⟨rfl, rfl, rfl, rfl⟩⟩

set_option maxRecDepth 100000 in
set_option maxHeartbeats 2000000 in
theorem take_any (A : Option Addr) (c : Nat) (b : List UInt8) (n : Nat) (hn : n = b.length) (hbc : b.length ≤ c) (hb : b.length ≤ 1000000000000) (w : World) (hI : Bytes w w.heap.size A b) :
    Calls Try.prog 67 #[.slice A n c] w (Took w b) := by
  subst hn
  by_cases h9 : b.length < 9
  · have h9' : (b.length : Int) < 9 := by omega
    have he := Lib.hid (show takeErr b = 32 by unfold takeErr; rw [if_pos h9])
    go_enter Try.func67, Try.ntmps67
    go_wp2
    refine bodyPost_ret (v := .tuple #[.agg #[.int .u8 0, .slice none 0 0], .int .i64 0, .int .i64 32]) (by simp [results, Try.results67, go_sem]) rfl ?_
    exact Took.err (by rw [he.out]; decide) (by rw [he.out]; rfl) ((Below.refl _ w).alloc (Nat.le_refl _) _)
  have h9' : ¬ (b.length : Int) < 9 := by omega
  obtain ⟨bb, off, rfl, hbb, _⟩ := hI.at_ (j := 0) (by omega)
  have h5 : Bytes w w.heap.size (some ⟨bb, off + 5, none⟩) (b.drop 5) := by
    unfold Bytes; rw [show bs (b.drop 5) = (bs b).drop 5 by simp [bs, List.map_drop]]
    exact Row.drop hI (fun _ _ _ h => by cases h; rfl)
  have hcc : 9 ≤ c := by omega
  have g1 : (5 : Int) ≤ (b.length : Int) := by omega
  have g2 : (b.length : Int) ≤ (c : Int) := by omega
  have g3 : 5 ≤ b.length := by omega
  have g4 : ¬ c = 5 := by omega
  obtain ⟨nB, hnB⟩ : ∃ nB, nB = number (b.drop 5) := ⟨_, rfl⟩
  have hnl : nB < 4294967296 := by rw [hnB]; exact Rec.number_lt _
  have HN := Lib.hid hnB
  clear hnB
  have hz := Blk.new_ w 88 #[.int .u8 0, .slice none 0 0] rfl
  have hB0 : Below w.heap.size w (w.alloc (.cells #[.int .u8 0, .slice none 0 0] 88)) := (Below.refl _ w).alloc (Nat.le_refl _) _
  have infoR : (Try.prog.info? 88).map (·.size) = some 2 := by kernel_rfl
  have err : ∀ (W : World) (fr : Act) (x : Nat), Blk W w.heap.size 88 #[.int .u8 0, .slice none 0 0] → Below w.heap.size w W → takeErr b = x → x ≠ 0 → fr.tmps.getD 2 undef = .pointer (some ⟨w.heap.size, 0, none⟩) → fr.tmps.getD 3 undef = .int .i64 0 → fr.tmps.getD 4 undef = .int .i64 x → fr.defers = [] →
      bodyPost Try.prog Try.f67 (Took w b) Exit.ret fr (W.setRow w.heap.size #[.int .u8 0, .slice none 0 0]) := by
    intro W fr x h1 h2 h3 h4 h5 h6 h7 h8
    refine bodyPost_ret (results_cell_row3 rfl _ _ w.heap.size 88 #[.int .u8 0, .slice none 0 0] (0, 0) _ h5 (h1.row _) Try.underlying88 rfl (by rw [infoR]; rfl)) h8 ?_
    refine Took.err (by rw [h3]; exact h4) ?_ (below_setRow h2 (Nat.le_refl _) _)
    rw [h6, h7, h3]
  have ERR := Lib.hid err
  clear err
  by_cases h4096 : 4096 < nB
  · have he := Lib.hid (show takeErr b = 31 by unfold takeErr; rw [if_neg h9, if_pos (by rw [← HN.out]; exact h4096)])
    have h4' : (4096 : Int) < (nB : Int) := by omega
    go_enter Try.func67, Try.ntmps67
    go_wp2_with fail
    generalize w.alloc (.cells #[.int .u8 0, .slice none 0 0] 88) = w0 at hz hB0
    refine Calls.mono (number_any _ _ (b.drop 5) _ (by simp) (by simp; omega) _ (by exact (h5.below hB0).more hB0.size)) ?_
    rintro e w1 ⟨rfl, hb1⟩
    rw [← HN.out]
    have hz1 := hz.below hb1 hz.lt
    have hB1 := hB0.trans (hb1.mono hB0.size)
    go_wp2_with (refine wpList_put_row rfl rfl 88 _ _ rfl w.heap.size rfl 88 _ #[.int .u8 0, .slice none 0 0] rfl hz1 (by rw [infoR]; rfl) rfl (by simp [Value.oneCell']) ?_)
    exact ERR.out w1 _ 31 hz1 hB1 he.out (by decide) rfl rfl rfl rfl
  have h4' : ¬ (4096 : Int) < (nB : Int) := by omega
  by_cases hend : b.length < 9 + nB
  · have he := Lib.hid (show takeErr b = 32 by unfold takeErr; rw [if_neg h9, if_neg (by rw [← HN.out]; exact h4096), if_pos (by rw [← HN.out]; exact hend)])
    have h9'' : (b.length : Int) < 9 + (nB : Int) := by omega
    go_enter Try.func67, Try.ntmps67
    go_wp2_with fail
    generalize w.alloc (.cells #[.int .u8 0, .slice none 0 0] 88) = w0 at hz hB0
    refine Calls.mono (number_any _ _ (b.drop 5) _ (by simp) (by simp; omega) _ (by exact (h5.below hB0).more hB0.size)) ?_
    rintro e w1 ⟨rfl, hb1⟩
    rw [← HN.out]
    have hz1 := hz.below hb1 hz.lt
    have hB1 := hB0.trans (hb1.mono hB0.size)
    go_wp2_with (refine wpList_put_row rfl rfl 88 _ _ rfl w.heap.size rfl 88 _ #[.int .u8 0, .slice none 0 0] rfl hz1 (by rw [infoR]; rfl) rfl (by simp [Value.oneCell']) ?_)
    exact ERR.out w1 _ 32 hz1 hB1 he.out (by decide) rfl rfl rfl rfl
  go_enter Try.func67, Try.ntmps67
  go_wp2_with fail
  generalize w.alloc (.cells #[.int .u8 0, .slice none 0 0] 88) = w0 at hz hB0
  refine Calls.mono (number_any _ _ (b.drop 5) _ (by simp) (by simp; omega) _ (by exact (h5.below hB0).more hB0.size)) ?_
  rintro e w1 ⟨rfl, hb1⟩
  rw [← HN.out]
  have hz1 := hz.below hb1 hz.lt
  have hB1 := hB0.trans (hb1.mono hB0.size)
  have hwin : Bytes w w.heap.size (some ⟨bb, off + 4, none⟩) ((b.take (9 + nB)).drop 4) := by
    unfold Bytes; rw [show bs ((b.take (9 + nB)).drop 4) = ((bs b).take (9 + nB)).drop 4 by simp [bs, List.map_drop, List.map_take]]
    exact Row.drop (hI.take _) (fun _ _ _ h => by cases h; rfl)
  have hdat : Bytes w w.heap.size (some ⟨bb, off + 9, none⟩) ((b.take (9 + nB)).drop 9) := by
    unfold Bytes; rw [show bs ((b.take (9 + nB)).drop 9) = ((bs b).take (9 + nB)).drop 9 by simp [bs, List.map_drop, List.map_take]]
    exact Row.drop (hI.take _) (fun _ _ _ h => by cases h; rfl)
  obtain ⟨_, _, e4, _, hk4⟩ := hI.at_ (j := 4) (by omega)
  cases e4
  obtain ⟨k, hk⟩ : ∃ k, k = b[4]'(by omega) := ⟨_, rfl⟩
  rw [← hk] at hk4
  have hkd : b.getD 4 0 = k := by rw [hk]; simp [show 4 < b.length by omega]
  have HK4 := Lib.hid hkd
  clear hk hkd
  have m1 : (4 : Int) ≤ 9 + (nB : Int) := by omega
  have m2 : (9 : Int) + (nB : Int) ≤ (c : Int) := by omega
  have m3 : (9 : Int) ≤ 9 + (nB : Int) := by omega
  have m4 : (4 : Int) < (b.length : Int) := by omega
  have m5 : ¬ c = 4 := by omega
  have hle : 9 + nB ≤ b.length := by omega
  go_wp2_with fail
  refine Calls.mono (sum_any' _ _ ((b.take (9 + nB)).drop 4) _ (by simp; omega) (by simp; omega) _ (by exact (hwin.below hB1).more hB1.size)) ?_
  rintro e w2 ⟨rfl, hb2⟩
  have hz2 := hz1.below hb2 hz1.lt
  have hB2 := hB1.trans (hb2.mono hB1.size)
  clear hz1 hB1 hb1 hb2
  go_wp2_with fail
  refine Calls.mono (number_any _ _ b _ rfl (by omega) _ (by exact (hI.below hB2).more hB2.size)) ?_
  rintro e w3 ⟨rfl, hb3⟩
  have hzK := hz2.below hb3 hz2.lt
  have hBK := hB2.trans (hb3.mono hB2.size)
  clear hz2 hB2 hb3
  by_cases hs : sumB ((b.take (9 + nB)).drop 4) = number b
  case neg =>
    have he := Lib.hid (show takeErr b = 33 by unfold takeErr; rw [if_neg h9, if_neg (by rw [← HN.out]; exact h4096), if_neg (by rw [← HN.out]; exact hend), if_pos (by rw [← HN.out]; exact hs)])
    have hne : (((sumB ((b.take (9 + nB)).drop 4) : Nat) : Int) != ((number b : Nat) : Int)) = true := by rw [bne_iff_ne]; omega
    clear hs
    go_wp2_with (refine wpList_put_row rfl rfl 88 _ _ rfl w.heap.size rfl 88 _ #[.int .u8 0, .slice none 0 0] rfl hzK (by rw [infoR]; rfl) rfl (by simp [Value.oneCell']) ?_)
    exact ERR.out _ _ 33 hzK hBK he.out (by decide) rfl rfl rfl rfl
  have hne : (((sumB ((b.take (9 + nB)).drop 4) : Nat) : Int) != ((number b : Nat) : Int)) = false := by rw [hs]; simp
  have HS := Lib.hid hs
  clear hs
  have hk4' := (hBK.cell (p := ⟨bb, off + 4, none⟩) hbb).trans hk4
  go_wp2_with fail
  refine Calls.mono (kind_any k _) ?_
  rintro e w4 ⟨rfl, rfl⟩
  cases hf : fine k
  case false =>
    have he := Lib.hid (show takeErr b = 30 by unfold takeErr; rw [if_neg h9, if_neg (by rw [← HN.out]; exact h4096), if_neg (by rw [← HN.out]; exact hend), if_neg (by rw [← HN.out]; exact fun h => h HS.out), HK4.out, hf]; rfl)
    clear hf
    go_wp2_with (refine wpList_put_row rfl rfl 88 _ _ rfl w.heap.size rfl 88 _ #[.int .u8 0, .slice none 0 0] rfl hzK (by rw [infoR]; rfl) rfl (by simp [Value.oneCell']) ?_)
    exact ERR.out _ _ 30 hzK hBK he.out (by decide) rfl rfl rfl rfl
  have he := Lib.hid (show takeErr b = 0 by unfold takeErr; rw [if_neg h9, if_neg (by rw [← HN.out]; exact h4096), if_neg (by rw [← HN.out]; exact hend), if_neg (by rw [← HN.out]; exact fun h => h HS.out), HK4.out, hf]; rfl)
  clear hf
  by_cases hc9 : c = 9
  · have hn0 : nB = 0 := by omega
    have hd9 : (b.take (9 + nB)).drop 9 = [] := by subst hn0; simp
    subst hn0
    go_wp2_with fail
    refine wp_region_held (S := fun W => Below w.heap.size w W) (by kernel_rfl) ?_
    have hS := hBK.drew
    change wpAnyH _ _ _ _ _ 12 _ _ w3.drew
    refine held_take (i := 0) rfl rfl (by kernel_rfl) (by kernel_rfl) (by kernel_rfl) (fun _ _ _ h => h) hS (fun W hW => by go_simp; rfl) ?_
    refine held_take (i := 1) rfl rfl (by kernel_rfl) (by kernel_rfl) (by kernel_rfl) (fun _ _ _ h => h) hS (fun W hW => by go_simp; rfl) ?_
    refine held_take (i := 2) rfl rfl (by kernel_rfl) (by kernel_rfl) (by kernel_rfl) (fun _ _ _ h => h) hS (fun W hW => by have hk5 : W.cell? ⟨bb, off + 4, none⟩ = some (.int .u8 (k.toNat : Nat)) := (hW.cell (p := ⟨bb, off + 4, none⟩) hbb).trans hk4; go_simp; rfl) ?_
    refine held_take (i := 3) rfl rfl (by kernel_rfl) (by kernel_rfl) (by kernel_rfl) (fun _ _ _ h => h) hS (fun W hW => by go_simp; rfl) ?_
    refine held_take (i := 4) rfl rfl (by kernel_rfl) (by kernel_rfl) (by kernel_rfl) (fun _ _ _ h => h) hS (fun W hW => by go_simp; rfl) ?_
    refine held_take (i := 5) rfl rfl (by kernel_rfl) (by kernel_rfl) (by kernel_rfl) (fun _ _ _ h => h) hS (fun W hW => by go_simp; rfl) ?_
    refine held_take (i := 8) rfl rfl (by kernel_rfl) (by kernel_rfl) (by kernel_rfl) (fun _ _ _ h => h) hS (fun W hW => by go_simp; rfl) ?_
    refine held_one (i := 6) rfl rfl (by kernel_rfl) fun K hK => ?_
    go_simp
    refine Calls.mono (clone_any _ _ ((b.take (9 + 0)).drop 9) _ (by rw [hd9]; rfl) (by rw [hd9]; decide) _ (by rw [hd9]; exact Row.nil)) ?_
    rintro e w5 ⟨v, rfl, hown, hb5⟩
    have hS5 := hS.trans (hb5.mono hBK.size)
    obtain ⟨A5, c5, rfl, hR5⟩ := own_slice hown
    refine hK _ _ hS5 ?_
    clear hK K
    refine held_one (i := 7) rfl rfl (by kernel_rfl) fun K hK => ?_
    go_simp
    refine hK _ _ hS5 ?_
    clear hK K
    have hz5 := Blk.below (w := w3.drew) (B := w3.heap.size) hzK hb5 hzK.lt
    have c0 := hz5.cell 0
    have c1 := hz5.cell 1
    have f0 := hz5.frozen 0
    have f1 := hz5.frozen 1
    simp only [List.getElem?_toArray, List.getElem?_cons_zero, List.getElem?_cons_succ] at c0 c1
    refine held_one (i := 9) rfl rfl (by kernel_rfl) fun K hK => ?_
    go_simp
    refine hK _ _ ((hS5.setCell (Nat.le_refl _) _).setCell (Nat.le_refl _) _) ?_
    clear hK K
    refine held_one (i := 10) rfl rfl (by kernel_rfl) fun K hK => ?_
    go_simp
    refine hK _ _ ((hS5.setCell (Nat.le_refl _) _).setCell (Nat.le_refl _) _) ?_
    clear hK K
    refine held_one (i := 11) rfl rfl (by kernel_rfl) fun K hK => ?_
    go_simp
    refine hK _ _ ((hS5.setCell (Nat.le_refl _) _).setCell (Nat.le_refl _) _) ?_
    clear hK K
    refine wpAnyH_done (by kernel_rfl) ?_ _
    go_wp2_with fail
    refine bodyPost_ret (results_cell_row3 rfl _ _ w.heap.size 88 _ (0, 0) _ rfl ((hz5.set_ 0 _).set_ 1 _).out Try.underlying88 rfl (by rw [infoR]; rfl)) rfl ?_
    refine ⟨k, (b.take (9 + 0)).drop 9, .slice A5 (0) c5, 9 + 0, by rw [he.out]; simp [go_sem], (hS5.setCell (Nat.le_refl _) _).setCell (Nat.le_refl _) _, ?_, fun _ => ⟨?_, ?_⟩, fun h => absurd he.out h⟩
    · have hl : ((b.take (9 + 0)).drop 9).length = 0 := by rw [hd9]; rfl
      rw [hl]
      refine own_base (ownsRow_setCell_below (ownsRow_setCell_below hown hzK.lt _) hzK.lt _) (Nat.le_of_lt hzK.lt)
    · unfold takeRec takeEnd
      rw [HK4.out, ← HN.out]
    · unfold takeEnd; rw [← HN.out]
  · go_wp2_with fail
    refine wp_region_held (S := fun W => Below w.heap.size w W) (by kernel_rfl) ?_
    have hS := hBK.drew
    change wpAnyH _ _ _ _ _ 12 _ _ w3.drew
    refine held_take (i := 0) rfl rfl (by kernel_rfl) (by kernel_rfl) (by kernel_rfl) (fun _ _ _ h => h) hS (fun W hW => by go_simp; rfl) ?_
    refine held_take (i := 1) rfl rfl (by kernel_rfl) (by kernel_rfl) (by kernel_rfl) (fun _ _ _ h => h) hS (fun W hW => by go_simp; rfl) ?_
    refine held_take (i := 2) rfl rfl (by kernel_rfl) (by kernel_rfl) (by kernel_rfl) (fun _ _ _ h => h) hS (fun W hW => by have hk5 : W.cell? ⟨bb, off + 4, none⟩ = some (.int .u8 (k.toNat : Nat)) := (hW.cell (p := ⟨bb, off + 4, none⟩) hbb).trans hk4; go_simp; rfl) ?_
    refine held_take (i := 3) rfl rfl (by kernel_rfl) (by kernel_rfl) (by kernel_rfl) (fun _ _ _ h => h) hS (fun W hW => by go_simp; rfl) ?_
    refine held_take (i := 4) rfl rfl (by kernel_rfl) (by kernel_rfl) (by kernel_rfl) (fun _ _ _ h => h) hS (fun W hW => by go_simp; rfl) ?_
    refine held_take (i := 5) rfl rfl (by kernel_rfl) (by kernel_rfl) (by kernel_rfl) (fun _ _ _ h => h) hS (fun W hW => by go_simp; rfl) ?_
    refine held_take (i := 8) rfl rfl (by kernel_rfl) (by kernel_rfl) (by kernel_rfl) (fun _ _ _ h => h) hS (fun W hW => by go_simp; rfl) ?_
    refine held_one (i := 6) rfl rfl (by kernel_rfl) fun K hK => ?_
    go_simp
    refine Calls.mono (clone_any _ _ ((b.take (9 + nB)).drop 9) _ (by simp; omega) (by simp; omega) _ (by exact ((hdat.below hBK).more hBK.size).drew)) ?_
    rintro e w5 ⟨v, rfl, hown, hb5⟩
    have hS5 := hS.trans (hb5.mono hBK.size)
    obtain ⟨A5, c5, rfl, hR5⟩ := own_slice hown
    refine hK _ _ hS5 ?_
    clear hK K
    refine held_one (i := 7) rfl rfl (by kernel_rfl) fun K hK => ?_
    go_simp
    refine hK _ _ hS5 ?_
    clear hK K
    have hz5 := Blk.below (w := w3.drew) (B := w3.heap.size) hzK hb5 hzK.lt
    have c0 := hz5.cell 0
    have c1 := hz5.cell 1
    have f0 := hz5.frozen 0
    have f1 := hz5.frozen 1
    simp only [List.getElem?_toArray, List.getElem?_cons_zero, List.getElem?_cons_succ] at c0 c1
    refine held_one (i := 9) rfl rfl (by kernel_rfl) fun K hK => ?_
    go_simp
    refine hK _ _ ((hS5.setCell (Nat.le_refl _) _).setCell (Nat.le_refl _) _) ?_
    clear hK K
    refine held_one (i := 10) rfl rfl (by kernel_rfl) fun K hK => ?_
    go_simp
    refine hK _ _ ((hS5.setCell (Nat.le_refl _) _).setCell (Nat.le_refl _) _) ?_
    clear hK K
    refine held_one (i := 11) rfl rfl (by kernel_rfl) fun K hK => ?_
    go_simp
    refine hK _ _ ((hS5.setCell (Nat.le_refl _) _).setCell (Nat.le_refl _) _) ?_
    clear hK K
    refine wpAnyH_done (by kernel_rfl) ?_ _
    go_wp2_with fail
    refine bodyPost_ret (results_cell_row3 rfl _ _ w.heap.size 88 _ (0, 0) _ rfl ((hz5.set_ 0 _).set_ 1 _).out Try.underlying88 rfl (by rw [infoR]; rfl)) rfl ?_
    refine ⟨k, (b.take (9 + nB)).drop 9, .slice A5 ((9 + (nB : Int)).toNat - 9) c5, 9 + nB, by rw [he.out]; simp [go_sem], (hS5.setCell (Nat.le_refl _) _).setCell (Nat.le_refl _) _, ?_, fun _ => ⟨?_, ?_⟩, fun h => absurd he.out h⟩
    · have hl : ((b.take (9 + nB)).drop 9).length = (9 + (nB : Int)).toNat - 9 := by simp; omega
      rw [hl]
      refine own_base (ownsRow_setCell_below (ownsRow_setCell_below hown hzK.lt _) hzK.lt _) (Nat.le_of_lt hzK.lt)
    · unfold takeRec takeEnd
      rw [HK4.out, ← HN.out]
    · unfold takeEnd; rw [← HN.out]
end Go.Proofs.Ytmkijkkddoamgaa.RecW

namespace Go.Proofs.Ytmkijkkddoamgaa.RecW
open Go.RowKit Go.Proofs Go.Proofs.Ytmkijkkddoamgaa Go.Proofs.Ytmkijkkddoamgaa.Wd Go.Proofs.Ytmkijkkddoamgaa.CrcW
open Go.Proofs.Ytmkijkkddoamgaa.Crc (sumB sumB_lt)
open Go.Proofs.Ytmkijkkddoamgaa.Rec (four number fine putErr rest R)

/-- What Put answers. -/
def Wrote (w : World) (r : R) (e : Ending) (w' : World) : Prop :=
  ∃ (v : Value), e = .returned (.tuple #[v, .int .i64 (putErr r : Nat)]) ∧ Below w.heap.size w w' ∧ (putErr r ≠ 0 → v = .slice none 0 0) ∧ (putErr r = 0 → w'.ownsRow w.heap.size 5 1 v (Rec.bytes r).length (bs (Rec.bytes r)))

theorem four_len (n : Nat) : (four n).length = 4 := rfl
theorem own_ge {w : World} {base g : Nat} {e : TypeId} {size n : Nat} {v : Value} {xs : List Value} (h : w.ownsRow base e size v n xs) (hg : v.ownBlock = some g) : base ≤ g := by
  rcases h.2 with ⟨rfl, _⟩ | ⟨g', cap, cur, rfl, hb, _⟩
  · simp [Value.ownBlock] at hg
  · have : g' = g := by simpa [Value.ownBlock] using hg
    omega

set_option maxRecDepth 100000 in
set_option maxHeartbeats 2000000 in
theorem put_any (k : UInt8) (A : Option Addr) (c : Nat) (d : List UInt8) (n : Nat) (hn : n = d.length) (w : World) (hI : Bytes w w.heap.size A d) :
    Calls Try.prog 37 #[.agg #[.int .u8 (k.toNat : Nat), .slice A n c]] w (Wrote w (k, d)) := by
  subst hn
  have hz := Blk.new_ w 88 #[.int .u8 (k.toNat : Nat), .slice A d.length c] rfl
  have hB0 : Below w.heap.size w (w.alloc (.cells #[.int .u8 (k.toNat : Nat), .slice A d.length c] 88)) := (Below.refl _ w).alloc (Nat.le_refl _) _
  have hsz0 : w.heap.size < (w.alloc (.cells #[.int .u8 (k.toNat : Nat), .slice A d.length c] 88)).heap.size := hz.lt
  go_enter Try.func37, Try.ntmps37
  go_wp2_with fail
  refine Calls.mono (kind_any k _) ?_
  rintro e w1 ⟨rfl, rfl⟩
  cases hf : fine k
  case false =>
    have he := Lib.hid (show putErr (k, d) = 30 by unfold putErr; rw [hf]; rfl)
    clear hf
    go_wp2_with fail
    refine bodyPost_ret (v := .tuple #[.slice none 0 0, .int .i64 30]) (by simp [results, Try.results37, go_sem]) rfl ?_
    exact ⟨_, by rw [he.out]; rfl, hB0, fun _ => rfl, fun h => by rw [he.out] at h; cases h⟩
  by_cases h4 : 4096 < d.length
  · have he := Lib.hid (show putErr (k, d) = 31 by unfold putErr; rw [hf, if_pos rfl, if_neg (by exact Nat.not_le.2 h4)])
    have h4' : (4096 : Int) < (d.length : Int) := by omega
    clear hf
    go_wp2_with fail
    refine bodyPost_ret (v := .tuple #[.slice none 0 0, .int .i64 31]) (by simp [results, Try.results37, go_sem]) rfl ?_
    exact ⟨_, by rw [he.out]; rfl, hB0, fun _ => rfl, fun h => by rw [he.out] at h; cases h⟩
  have he := Lib.hid (show putErr (k, d) = 0 by unfold putErr; rw [hf, if_pos rfl, if_pos (Nat.not_lt.1 h4)])
  have h4' : ¬ (4096 : Int) < (d.length : Int) := by omega
  clear hf
  go_wp2_with fail
  generalize w.alloc (.cells #[.int .u8 (k.toNat : Nat), .slice A d.length c] 88) = w0 at hz hB0 hsz0
  refine wp_region_held (S := fun W => Below (w.heap.size + 1) w0 W) (by kernel_rfl) ?_
  have hS := (Below.refl (w.heap.size + 1) w0).drew
  change wpAnyH _ _ _ _ _ 13 _ _ w0.drew
  refine held_take (i := 0) rfl rfl (by kernel_rfl) (by kernel_rfl) (by kernel_rfl) (fun _ _ _ h => h) hS (fun W hW => by go_simp; rfl) ?_
  refine held_take (i := 1) rfl rfl (by kernel_rfl) (by kernel_rfl) (by kernel_rfl) (fun _ _ _ h => h) hS (fun W hW => by have c0 := (hz.below hW (Nat.lt_succ_self _)).cell 0; simp only [List.getElem?_toArray, List.getElem?_cons_zero] at c0; go_simp; rfl) ?_
  refine held_take (i := 3) rfl rfl (by kernel_rfl) (by kernel_rfl) (by kernel_rfl) (fun _ _ _ h => h) hS (fun W hW => by go_simp; rfl) ?_
  refine held_take (i := 4) rfl rfl (by kernel_rfl) (by kernel_rfl) (by kernel_rfl) (fun _ _ _ h => h) hS (fun W hW => by have c1 := (hz.below hW (Nat.lt_succ_self _)).cell 1; simp only [List.getElem?_toArray, List.getElem?_cons_zero, List.getElem?_cons_succ] at c1; go_simp; rfl) ?_
  refine held_take (i := 5) rfl rfl (by kernel_rfl) (by kernel_rfl) (by kernel_rfl) (fun _ _ _ h => h) hS (fun W hW => by go_simp; rfl) ?_
  refine held_take (i := 6) rfl rfl (by kernel_rfl) (by kernel_rfl) (by kernel_rfl) (fun _ _ _ h => h) hS (fun W hW => by go_simp; rfl) ?_
  refine held_take (i := 9) rfl rfl (by kernel_rfl) (by kernel_rfl) (by kernel_rfl) (fun _ _ _ h => h) hS (fun W hW => by go_simp; rfl) ?_
  refine held_take (i := 10) rfl rfl (by kernel_rfl) (by kernel_rfl) (by kernel_rfl) (fun _ _ _ h => h) hS (fun W hW => by have c1 := (hz.below hW (Nat.lt_succ_self _)).cell 1; simp only [List.getElem?_toArray, List.getElem?_cons_zero, List.getElem?_cons_succ] at c1; go_simp; rfl) ?_
  have hwr : IntKind.u32.wrap (d.length : Int) = d.length := by rw [IntKind.wrap_u32']; omega
  obtain ⟨i0, hi0, hz0, hz1, hz2⟩ := info_parts infoU8
  have hBd : w.heap.size + 1 ≤ w0.drew.heap.size := hsz0
  refine held_two (i := 2) (j := 7) (by kernel_rfl) rfl rfl rfl rfl (fun K hK => ?_) (fun K hK => ?_)
  · go_simp
    have hb17 := Blk.new_ w0.drew 5 #[.int .u8 (k.toNat : Nat)] rfl
    have hS1 := hS.alloc hBd (.cells #[.int .u8 (k.toNat : Nat)] 5)
    refine hK _ _ hS1 ?_
    clear hK K
    have hBe : w.heap.size + 1 ≤ (w0.drew.alloc (.cells #[.int .u8 (k.toNat : Nat)] 5)).heap.size := by simp; omega
    refine held_one (i := 7) rfl rfl (by kernel_rfl) fun K hK => ?_
    go_simp
    refine Calls.mono (four_any d.length (by omega) _) ?_
    rintro e w2 ⟨rfl, rfl⟩
    have hb22 := Blk.new_ (w0.drew.alloc (.cells #[.int .u8 (k.toNat : Nat)] 5)) 5 (bs (four d.length)).toArray rfl
    have hb17' := hb17.alloc (.cells (bs (four d.length)).toArray 5)
    have hS2 := hS1.alloc hBe (.cells (bs (four d.length)).toArray 5)
    have hR22 := Row.blk hb22 hb22.lt
    have hown17 := hb17'.own hBd 1 (Nat.le_refl _) (by simp [maxLen])
    have hsz2 := hS2.size
    refine hK _ _ hS2 ?_
    clear hK K
    refine held_one (i := 8) rfl rfl (by kernel_rfl) fun K hK => ?_
    refine wp_append_row _ (.tmp 17) (.tmp 22) _ rfl (w.heap.size + 1) 5 i0 _ 1 Try.underlying23 hi0 hz0 hz1 hz2 rfl _ 1 (bs [k]) rfl hown17 _ _ 4 4 (bs (four d.length)) rfl rfl hR22 (bs_one _) (by unfold maxLen; omega) (by omega) (by simp; omega) ?_
    intro v23 w3 hown23 hgrow3 _ hat3
    have hS3 := hS2.grown hgrow3 (by omega) (by intro g hg; exact own_ge hown17 hg)
    have hB3 := (hB0.mono (Nat.le_refl _)).trans (hS3.mono (Nat.le_succ _))
    refine hK _ _ hS3 ?_
    clear hK K
    refine held_one (i := 11) rfl rfl (by kernel_rfl) fun K hK => ?_
    refine wp_append_row _ (.tmp 23) (.tmp 25) _ rfl (w.heap.size + 1) 5 i0 _ 1 Try.underlying23 hi0 hz0 hz1 hz2 rfl _ (1 + 4) _ rfl hown23 w.heap.size A d.length c (bs d) rfl (bs_length d).symm (by exact hI.below hB3) (bs_one d) (by unfold maxLen; omega) (by omega) (by have := hS3.size; omega) ?_
    intro v26 w4 hown26 hgrow4 _ hat4
    have hS4 := hS3.grown hgrow4 (by have := hS3.size; omega) (by intro g hg; exact own_ge hown23 hg)
    refine hK _ _ hS4 ?_
    clear hK K
    refine held_one (i := 12) rfl rfl (by kernel_rfl) fun K hK => ?_
    go_simp
    refine hK _ _ hS4 ?_
    clear hK K
    refine wpAnyH_done (by kernel_rfl) ?_ _
    obtain ⟨A26, c26, rfl, hR26⟩ := own_slice hown26
    have hB4 := (hB0.mono (Nat.le_refl _)).trans (hS4.mono (Nat.le_succ _))
    obtain ⟨rs, hrs⟩ : ∃ rs, rs = rest (k, d) := ⟨_, rfl⟩
    have hr : bs [k] ++ bs (four d.length) ++ bs d = bs rs := by rw [hrs]; simp [bs, rest]
    have hrl : 1 + 4 + d.length = rs.length := by rw [hrs, Rec.rest_length]; show _ = d.length + 5; omega
    have hrx : rs.length ≤ 5000 := by omega
    have HRS := Lib.hid hrs
    rw [hr] at hown26 hR26
    clear hr hrs hown26
    rw [hrl]
    clear hrl
    go_wp2_with fail
    refine Calls.mono (sum_any' _ _ rs _ rfl (by omega) _ (by exact hR26)) ?_
    rintro e w5 ⟨rfl, hb5⟩
    have hR5 := (Row.below hR26 hb5).more hb5.size
    have hB5 := hB4.trans (hb5.mono hB4.size)
    clear hR26 hb5
    go_wp2_with fail
    refine Calls.mono (four_any _ (sumB_lt _) _) ?_
    rintro e w6 ⟨rfl, rfl⟩
    have hb28 := Blk.new_ w5 5 (bs (four (sumB rs))).toArray rfl
    have hown28 : (w5.alloc (.cells (bs (four (sumB rs))).toArray 5)).ownsRow w5.heap.size 5 1 (.slice (some ⟨w5.heap.size, 0, none⟩) 4 4) 4 (bs (four (sumB rs))) := by
      have := hb28.own (Nat.le_refl _) 4 (by simp [bs, four]) (by simp [bs, four, maxLen])
      simpa [bs, four] using this
    go_wp2_with (at_builtin; refine wpList_append_row _ rfl (.tmp 29) (.tmp 30) _ rfl w5.heap.size 5 i0 _ 1 Try.underlying23 hi0 hz0 hz1 hz2 rfl _ 4 _ rfl (by exact hown28) w5.heap.size A26 rs.length c26 (bs rs) rfl (bs_length rs).symm (by exact hR5.alloc (Nat.le_refl _) _) (bs_one _) (by unfold maxLen; omega) (by omega) (by simp) ?_)
    intro v31 w7 hown31 hgrow7 _ _
    have hB7 := (hB5.alloc hB5.size (.cells (bs (four (sumB rs))).toArray 5)).grown hgrow7 (by simp; have := hB5.size; omega) (by intro g hg; simp [Value.ownBlock] at hg; have := hB5.size; omega)
    go_wp2_with fail
    refine bodyPost_ret (v := .tuple #[v31, .int .i64 0]) (by simp [results, Try.results37, go_sem]) rfl ?_
    refine ⟨v31, by rw [he.out]; rfl, hB7, fun h => absurd he.out h, fun _ => ?_⟩
    have hb : Rec.bytes (k, d) = four (sumB rs) ++ rs := by unfold Rec.bytes; rw [← HRS.out]
    rw [hb, bs_append, List.length_append, four_len]
    exact own_base hown31 hB5.size
  · go_simp
    refine Calls.mono (four_any d.length (by omega) _) ?_
    rintro e w2 ⟨rfl, rfl⟩
    have hb22 := Blk.new_ w0.drew 5 (bs (four d.length)).toArray rfl
    have hS1 := hS.alloc hBd (.cells (bs (four d.length)).toArray 5)
    have hBe : w.heap.size + 1 ≤ (w0.drew.alloc (.cells (bs (four d.length)).toArray 5)).heap.size := by simp; omega
    refine hK _ _ hS1 ?_
    clear hK K
    refine held_one (i := 2) rfl rfl (by kernel_rfl) fun K hK => ?_
    go_simp
    have hb17 := Blk.new_ (w0.drew.alloc (.cells (bs (four d.length)).toArray 5)) 5 #[.int .u8 (k.toNat : Nat)] rfl
    have hb22' := hb22.alloc (.cells #[.int .u8 (k.toNat : Nat)] 5)
    have hS2 := hS1.alloc hBe (.cells #[.int .u8 (k.toNat : Nat)] 5)
    have hR22 := Row.blk hb22' hb22'.lt
    have hown17 := hb17.own hBe 1 (Nat.le_refl _) (by simp [maxLen])
    have hsz : (w0.drew.alloc (.cells (bs (four d.length)).toArray 5)).heap.size = w0.heap.size + 1 := by simp
    rw [hsz] at hown17
    have hsz2 := hS2.size
    refine hK _ _ hS2 ?_
    clear hK K
    refine held_one (i := 8) rfl rfl (by kernel_rfl) fun K hK => ?_
    refine wp_append_row _ (.tmp 17) (.tmp 22) _ rfl (w.heap.size + 1) 5 i0 _ 1 Try.underlying23 hi0 hz0 hz1 hz2 rfl _ 1 (bs [k]) rfl hown17 _ _ 4 4 (bs (four d.length)) rfl rfl hR22 (bs_one _) (by unfold maxLen; omega) (by omega) (by simp; omega) ?_
    intro v23 w3 hown23 hgrow3 _ hat3
    have hS3 := hS2.grown hgrow3 (by omega) (by intro g hg; exact own_ge hown17 hg)
    have hB3 := (hB0.mono (Nat.le_refl _)).trans (hS3.mono (Nat.le_succ _))
    refine hK _ _ hS3 ?_
    clear hK K
    refine held_one (i := 11) rfl rfl (by kernel_rfl) fun K hK => ?_
    refine wp_append_row _ (.tmp 23) (.tmp 25) _ rfl (w.heap.size + 1) 5 i0 _ 1 Try.underlying23 hi0 hz0 hz1 hz2 rfl _ (1 + 4) _ rfl hown23 w.heap.size A d.length c (bs d) rfl (bs_length d).symm (by exact hI.below hB3) (bs_one d) (by unfold maxLen; omega) (by omega) (by have := hS3.size; omega) ?_
    intro v26 w4 hown26 hgrow4 _ hat4
    have hS4 := hS3.grown hgrow4 (by have := hS3.size; omega) (by intro g hg; exact own_ge hown23 hg)
    refine hK _ _ hS4 ?_
    clear hK K
    refine held_one (i := 12) rfl rfl (by kernel_rfl) fun K hK => ?_
    go_simp
    refine hK _ _ hS4 ?_
    clear hK K
    refine wpAnyH_done (by kernel_rfl) ?_ _
    obtain ⟨A26, c26, rfl, hR26⟩ := own_slice hown26
    have hB4 := (hB0.mono (Nat.le_refl _)).trans (hS4.mono (Nat.le_succ _))
    obtain ⟨rs, hrs⟩ : ∃ rs, rs = rest (k, d) := ⟨_, rfl⟩
    have hr : bs [k] ++ bs (four d.length) ++ bs d = bs rs := by rw [hrs]; simp [bs, rest]
    have hrl : 1 + 4 + d.length = rs.length := by rw [hrs, Rec.rest_length]; show _ = d.length + 5; omega
    have hrx : rs.length ≤ 5000 := by omega
    have HRS := Lib.hid hrs
    rw [hr] at hown26 hR26
    clear hr hrs hown26
    rw [hrl]
    clear hrl
    go_wp2_with fail
    refine Calls.mono (sum_any' _ _ rs _ rfl (by omega) _ (by exact hR26)) ?_
    rintro e w5 ⟨rfl, hb5⟩
    have hR5 := (Row.below hR26 hb5).more hb5.size
    have hB5 := hB4.trans (hb5.mono hB4.size)
    clear hR26 hb5
    go_wp2_with fail
    refine Calls.mono (four_any _ (sumB_lt _) _) ?_
    rintro e w6 ⟨rfl, rfl⟩
    have hb28 := Blk.new_ w5 5 (bs (four (sumB rs))).toArray rfl
    have hown28 : (w5.alloc (.cells (bs (four (sumB rs))).toArray 5)).ownsRow w5.heap.size 5 1 (.slice (some ⟨w5.heap.size, 0, none⟩) 4 4) 4 (bs (four (sumB rs))) := by
      have := hb28.own (Nat.le_refl _) 4 (by simp [bs, four]) (by simp [bs, four, maxLen])
      simpa [bs, four] using this
    go_wp2_with (at_builtin; refine wpList_append_row _ rfl (.tmp 29) (.tmp 30) _ rfl w5.heap.size 5 i0 _ 1 Try.underlying23 hi0 hz0 hz1 hz2 rfl _ 4 _ rfl (by exact hown28) w5.heap.size A26 rs.length c26 (bs rs) rfl (bs_length rs).symm (by exact hR5.alloc (Nat.le_refl _) _) (bs_one _) (by unfold maxLen; omega) (by omega) (by simp) ?_)
    intro v31 w7 hown31 hgrow7 _ _
    have hB7 := (hB5.alloc hB5.size (.cells (bs (four (sumB rs))).toArray 5)).grown hgrow7 (by simp; have := hB5.size; omega) (by intro g hg; simp [Value.ownBlock] at hg; have := hB5.size; omega)
    go_wp2_with fail
    refine bodyPost_ret (v := .tuple #[v31, .int .i64 0]) (by simp [results, Try.results37, go_sem]) rfl ?_
    refine ⟨v31, by rw [he.out]; rfl, hB7, fun h => absurd he.out h, fun _ => ?_⟩
    have hb : Rec.bytes (k, d) = four (sumB rs) ++ rs := by unfold Rec.bytes; rw [← HRS.out]
    rw [hb, bs_append, List.length_append, four_len]
    exact own_base hown31 hB5.size
end Go.Proofs.Ytmkijkkddoamgaa.RecW

namespace Go.Proofs.Ytmkijkkddoamgaa.Rec

def allF : Nat → List UInt8 → List R × Nat × Nat
  | 0, _ => ([], 0, 0)
  | f + 1, b => if b.length = 0 then ([], 0, 0) else if takeErr b ≠ 0 then ([], 0, takeErr b) else
      (takeRec b :: (allF f (b.drop (takeEnd b))).1, takeEnd b + (allF f (b.drop (takeEnd b))).2.1, (allF f (b.drop (takeEnd b))).2.2)
theorem allF_enough : ∀ (f g : Nat) (b : List UInt8), b.length ≤ f → b.length ≤ g → allF f b = allF g b := by
  intro f
  induction f with
  | zero =>
    intro g b hf _
    have h0 : b.length = 0 := by omega
    cases g with
    | zero => rfl
    | succ g => simp [allF, h0]
  | succ f ih =>
    intro g b hf hg
    cases g with
    | zero =>
      have h0 : b.length = 0 := by omega
      simp [allF, h0]
    | succ g =>
      unfold allF
      have h9 : 9 ≤ takeEnd b := by unfold takeEnd; omega
      by_cases h0 : b.length = 0
      · rw [if_pos h0, if_pos h0]
      · rw [if_neg h0, if_neg h0, ih g (b.drop (takeEnd b)) (by simp; omega) (by simp; omega)]
/-- All records of bytes, where they end, and the error there. -/
def all (b : List UInt8) : List R × Nat × Nat := allF b.length b
theorem all_nil : all [] = ([], 0, 0) := rfl
theorem all_err {b : List UInt8} (h0 : 0 < b.length) (h : takeErr b ≠ 0) : all b = ([], 0, takeErr b) := by
  unfold all
  obtain ⟨n, hn⟩ : ∃ n, b.length = n + 1 := ⟨b.length - 1, by omega⟩
  rw [hn, allF, if_neg (by omega), if_pos h]
theorem all_ok {b : List UInt8} (h : takeErr b = 0) : all b = (takeRec b :: (all (b.drop (takeEnd b))).1, takeEnd b + (all (b.drop (takeEnd b))).2.1, (all (b.drop (takeEnd b))).2.2) := by
  have h9 := (takeEnd_le h).1
  have he : 9 ≤ takeEnd b := by unfold takeEnd; omega
  unfold all
  obtain ⟨n, hn⟩ : ∃ n, b.length = n + 1 := ⟨b.length - 1, by omega⟩
  rw [hn, allF, if_neg (by omega), if_neg (by simp [h]), allF_enough n (b.drop (takeEnd b)).length _ (by simp; omega) (Nat.le_refl _)]
/-- So far: the records ahead of a place, and what is told of the rest. -/
def Reach (b : List UInt8) (pre : List R) (at_ : Nat) : Prop :=
  at_ ≤ b.length ∧ all b = (pre ++ (all (b.drop at_)).1, at_ + (all (b.drop at_)).2.1, (all (b.drop at_)).2.2)
theorem Reach.start (b : List UInt8) : Reach b [] 0 := ⟨Nat.zero_le _, by simp⟩
theorem Reach.next {b : List UInt8} {pre : List R} {at_ : Nat} (h : Reach b pre at_) (he : takeErr (b.drop at_) = 0) : Reach b (pre ++ [takeRec (b.drop at_)]) (at_ + takeEnd (b.drop at_)) := by
  obtain ⟨h1, h2⟩ := h
  have hl := (takeEnd_le he).2.1
  rw [List.length_drop] at hl
  have h3 := all_ok he
  rw [List.drop_drop] at h3
  refine ⟨by omega, ?_⟩
  rw [h2, h3]
  simp [Nat.add_assoc]
theorem Reach.stop {b : List UInt8} {pre : List R} {at_ : Nat} (h : Reach b pre at_) (hl : at_ < b.length) (he : takeErr (b.drop at_) ≠ 0) : all b = (pre, at_, takeErr (b.drop at_)) := by
  have := h.2
  rw [all_err (by rw [List.length_drop]; omega) he] at this
  simpa using this
theorem Reach.full {b : List UInt8} {pre : List R} {at_ : Nat} (h : Reach b pre at_) (hl : ¬ at_ < b.length) : all b = (pre, b.length, 0) := by
  obtain ⟨h1, h2⟩ := h
  have : at_ = b.length := by omega
  subst this
  rw [List.drop_length, all_nil] at h2
  simpa using h2
end Go.Proofs.Ytmkijkkddoamgaa.Rec

namespace Go.Proofs.Ytmkijkkddoamgaa.RecW
open Go.RowKit Go.Shelf Go.Proofs Go.Proofs.Ytmkijkkddoamgaa Go.Proofs.Ytmkijkkddoamgaa.Wd Go.Proofs.Ytmkijkkddoamgaa.CrcW
open Go.Proofs.Ytmkijkkddoamgaa.Rec (R takeErr takeEnd takeRec)
theorem own_one {w : World} {base : Nat} {e : TypeId} {size n : Nat} {v : Value} {xs : List Value} (h : w.ownsRow base e size v n xs) : v.oneCell' = true := by
  rcases h.2 with ⟨rfl, _⟩ | ⟨g', cap, cur, rfl, hb, _⟩ <;> rfl
theorem own_below {B : Nat} {e : TypeId} {k : Nat} {v : Value} {n : Nat} {xs : List Value} {w w' : World} (h : w.ownsRow B e k v n xs) (hb : Below w.heap.size w w') : w'.ownsRow B e k v n xs := by
  obtain ⟨h1, h2⟩ := h
  refine ⟨h1, ?_⟩
  rcases h2 with h2 | ⟨g, cap, cur, hv, hg, hh, r⟩
  · exact .inl h2
  · exact .inr ⟨g, cap, cur, hv, hg, (hb.block g (Array.getElem?_eq_some_iff.1 hh).1).trans hh, r⟩
/-- Blocks of bytes that nothing froze lie as they lay. -/
def KeepU8 (w w' : World) : Prop := ∀ (g : Nat) (cs : Array Value), w.heap[g]? = some (.cells cs 5 (0, 0)) → w'.heap[g]? = some (.cells cs 5 (0, 0))
theorem KeepU8.refl (w : World) : KeepU8 w w := fun _ _ h => h
theorem KeepU8.trans {a b c : World} (h : KeepU8 a b) (k : KeepU8 b c) : KeepU8 a c := fun g cs hg => k g cs (h g cs hg)
theorem KeepU8.below {w w' : World} (h : Below w.heap.size w w') : KeepU8 w w' := fun g _ hg => (h.block g (Array.getElem?_eq_some_iff.1 hg).1).trans hg
theorem KeepU8.turns {B : Nat} {w w' : World} (h : Turns B w w') : KeepU8 w w' := fun g _ hg => h.cells g _ hg rfl
theorem KeepU8.alloc (w : World) (o : Obj) : KeepU8 w (w.alloc o) := fun g _ hg => (Below.heap_alloc w o g (Array.getElem?_eq_some_iff.1 hg).1).trans hg
theorem KeepU8.set_ {w : World} {g : Nat} {t : TypeId} {cs : Array Value} (h : Blk w g t cs) (ht : t ≠ 5) (i : Nat) (u : Value) : KeepU8 w (w.setCell ⟨g, i, none⟩ u) := fun k cs' hk => by
  have hne : k ≠ g := fun e => by subst e; exact Blk.ne_ h (cs' := cs') hk ht rfl
  exact (heap_setCell_other w _ k u hne).trans hk
theorem KeepU8.grown {w w' : World} {row : Option Nat} (h : w.grownBy w' row) (hr : ∀ g, row = some g → ∃ t cs fr, w.heap[g]? = some (.cells cs t fr) ∧ t ≠ 5) : KeepU8 w w' := fun k cs' hk => by
  refine (h.block k (Array.getElem?_eq_some_iff.1 hk).1 (fun e => ?_)).trans hk
  obtain ⟨t, cs, fr, hg, ht⟩ := hr k e.symm
  rw [hk] at hg
  injection hg with hg
  injection hg with _ hg
  exact ht hg.symm
theorem own_u8 {w w' : World} {B n : Nat} {v : Value} {xs : List Value} (h : w.ownsRow B 5 1 v n xs) (hk : KeepU8 w w') : w'.ownsRow B 5 1 v n xs := by
  obtain ⟨h1, h2⟩ := h
  refine ⟨h1, ?_⟩
  rcases h2 with h2 | ⟨g, cap, cur, hv, hg, hh, r⟩
  · exact .inl h2
  · exact .inr ⟨g, cap, cur, hv, hg, hk g cur hh, r⟩
/-- The cells of records. -/
def RecsAt (w : World) (B : Nat) (xs : List Value) (rs : List R) : Prop :=
  xs.length = rs.length * 2 ∧ ∀ j (h : j < rs.length), ∃ v, xs[2 * j]? = some (.int .u8 (rs[j].1.toNat : Nat)) ∧ xs[2 * j + 1]? = some v ∧ w.ownsRow B 5 1 v rs[j].2.length (bs rs[j].2)
theorem RecsAt.nil (w : World) (B : Nat) : RecsAt w B [] [] := ⟨rfl, fun _ h => absurd h (Nat.not_lt_zero _)⟩
theorem RecsAt.keep {w w' : World} {B : Nat} {xs : List Value} {rs : List R} (h : RecsAt w B xs rs) (hk : KeepU8 w w') : RecsAt w' B xs rs :=
  ⟨h.1, fun j hj => let ⟨v, h1, h2, h3⟩ := h.2 j hj; ⟨v, h1, h2, own_u8 h3 hk⟩⟩
theorem RecsAt.snoc {w : World} {B : Nat} {xs : List Value} {rs : List R} (h : RecsAt w B xs rs) {k : UInt8} {v : Value} {d : List UInt8} (hv : w.ownsRow B 5 1 v d.length (bs d)) :
    RecsAt w B (xs ++ [.int .u8 (k.toNat : Nat), v]) (rs ++ [(k, d)]) := by
  obtain ⟨hl, ha⟩ := h
  refine ⟨by simp [hl]; omega, fun j hj => ?_⟩
  by_cases hlt : j < rs.length
  · obtain ⟨u, h1, h2, h3⟩ := ha j hlt
    refine ⟨u, ?_, ?_, ?_⟩
    · rw [List.getElem?_append_left (by omega), List.getElem_append_left hlt]; exact h1
    · rw [List.getElem?_append_left (by omega)]; exact h2
    · rw [List.getElem_append_left hlt]; exact h3
  · have : j = rs.length := by simp at hj; omega
    subst this
    refine ⟨v, ?_, ?_, ?_⟩
    · rw [List.getElem?_append_right (by omega)]; simp [show 2 * rs.length - xs.length = 0 by omega]
    · rw [List.getElem?_append_right (by omega)]; simp [show 2 * rs.length + 1 - xs.length = 1 by omega]
    · simpa using hv
/-- What All answers. -/
def AllOut (w : World) (b : List UInt8) (e : Ending) (w' : World) : Prop :=
  ∃ v xs, e = .returned (.tuple #[v, .int .i64 ((Rec.all b).2.1 : Nat), .int .i64 ((Rec.all b).2.2 : Nat)]) ∧ Below w.heap.size w w' ∧ w'.ownsRow w.heap.size 88 2 v (Rec.all b).1.length xs ∧ RecsAt w' w.heap.size xs (Rec.all b).1

theorem infoRec : (Try.prog.info? 88).map (fun i => (i.zero, i.size, i.bytes)) = some (some (.agg #[.int .u8 0, .slice none 0 0]), 2, 32) := by kernel_rfl
end Go.Proofs.Ytmkijkkddoamgaa.RecW

namespace Go.Proofs.Ytmkijkkddoamgaa.RecW
set_option linter.unusedVariables false
open Go.RowKit Go.Proofs Go.Proofs.Ytmkijkkddoamgaa Go.Proofs.Ytmkijkkddoamgaa.Wd Go.Proofs.Ytmkijkkddoamgaa.CrcW
open Go.Proofs.Ytmkijkkddoamgaa.Rec (R four number fine takeErr takeEnd takeRec putErr)

theorem anew_any (A : Option Addr) (c : Nat) (l : List UInt8) (n : Nat) (hn : n = l.length) (hc : l.length ≤ 100000000000) (w : World) (hI : Bytes w w.heap.size A l) :
    Calls Try.prog 26 #[.slice A n c] w (Fresh w n l) := by
  subst hn
  obtain ⟨i0, hi0, hz0, hz1, hz2⟩ := info_parts infoU8
  go_enter Try.func26, Try.ntmps26
  go_wp2_with (at_builtin; refine wpList_append_row _ rfl (.tmp 3) (.tmp 4) _ rfl w.heap.size 5 i0 _ 1 Try.underlying23 hi0 hz0 hz1 hz2 rfl _ 0 [] rfl (by exact own_empty _ _ (Nat.le_refl _)) w.heap.size A l.length c (bs l) rfl (bs_length l).symm (by exact hI.alloc (Nat.le_refl _) _) (bs_one l) (by unfold maxLen; omega) (by omega) (by simp) ?_)
  intro v1 w1 hown hgrow _ _
  have hB1 : Below w.heap.size w w1 := ((Below.refl _ w).alloc (Nat.le_refl _) _).grown hgrow (by simp) (by simp [Value.ownBlock])
  go_wp2
  go_ret
  exact ⟨_, rfl, hown, hB1⟩

theorem same_any (A B : Option Addr) (c d : Nat) (l k : List UInt8) (n m : Nat) (hn : n = l.length) (hm : m = k.length) (w : World) (hI : Bytes w w.heap.size A l) (hJ : Bytes w w.heap.size B k) :
    Calls Try.prog 27 #[.slice A n c, .slice B m d] w fun e w' => e = .returned (.bool (l == k)) ∧ w = w' := by
  subst hn hm
  have k1 := run_convert_bytes (P := Try.prog) w 23 5 9 Try.underlying23 Try.underlying5 Try.underlying9 hI c rfl
  have k2 := run_convert_bytes (P := Try.prog) w 23 5 9 Try.underlying23 Try.underlying5 Try.underlying9 hJ d rfl
  go_enter Try.func27, Try.ntmps27
  go_wp2
  go_ret
  exact ⟨rfl, rfl⟩
/-- A slice of records: from its address they lie one behind the other, below block B. -/
def Recs (w : World) (B : Nat) (A : Option Addr) (rs : List R) : Prop :=
  ∀ j (h : j < rs.length), ∃ b off A' c, A = some ⟨b, off, none⟩ ∧ b < B ∧ w.cell? ⟨b, off + j * 2, none⟩ = some (.int .u8 (rs[j].1.toNat : Nat)) ∧ w.cell? ⟨b, off + j * 2 + 1, none⟩ = some (.slice A' rs[j].2.length c) ∧
    rs[j].2.length ≤ c ∧ Bytes w B A' rs[j].2
section
variable {w w' : World} {B B' : Nat} {A : Option Addr} {rs : List R}
theorem Recs.nil : Recs w B A [] := fun _ h => absurd h (Nat.not_lt_zero _)
theorem Recs.below (h : Recs w B A rs) (hb : Below B w w') : Recs w' B A rs := fun j hj => by
  obtain ⟨b, off, A', c, e, hlt, h1, h2, h3, h4⟩ := h j hj
  exact ⟨b, off, A', c, e, hlt, (hb.cell (p := ⟨b, _, none⟩) hlt).trans h1, (hb.cell (p := ⟨b, _, none⟩) hlt).trans h2, h3, h4.below hb⟩
theorem Recs.more (h : Recs w B A rs) (hB : B ≤ B') : Recs w B' A rs := fun j hj => by
  obtain ⟨b, off, A', c, e, hlt, h1, h2, h3, h4⟩ := h j hj
  exact ⟨b, off, A', c, e, by omega, h1, h2, h3, h4.more hB⟩
theorem Recs.grow (h : Recs w w.heap.size A rs) (hb : Below w.heap.size w w') : Recs w' w'.heap.size A rs := (h.below hb).more hb.size
theorem Recs.drew (h : Recs w B A rs) : Recs w.drew B A rs := h
theorem Recs.take (h : Recs w B A rs) (k : Nat) : Recs w B A (rs.take k) := fun j hj => by
  have hj' : j < rs.length := by simp at hj; omega
  obtain ⟨b, off, A', c, e, hlt, h1, h2, h3, h4⟩ := h j hj'
  refine ⟨b, off, A', c, e, hlt, ?_⟩
  rw [List.getElem_take]
  exact ⟨h1, h2, h3, h4⟩
end
theorem own_recs {w : World} {base : Nat} {v : Value} {n : Nat} {xs : List Value} {rs : List R} (h : w.ownsRow base 88 2 v n xs) (hr : RecsAt w base xs rs) : ∃ A c, v = .slice A n c ∧ n ≤ c ∧ n = rs.length ∧ Recs w w.heap.size A rs := by
  have hl := h.1
  have hl2 := hr.1
  have hn : n = rs.length := by omega
  rcases h.2 with ⟨rfl, h0⟩ | ⟨g, cap, cur, rfl, hg, hh, hc, hm, _, ht⟩
  · have : rs = [] := List.eq_nil_of_length_eq_zero (by omega)
    subst this
    subst h0
    exact ⟨none, 0, rfl, Nat.le_refl _, rfl, Recs.nil⟩
  · refine ⟨_, cap, rfl, hc, hn, fun j hj => ?_⟩
    obtain ⟨v, h1, h2, h3⟩ := hr.2 j hj
    obtain ⟨A', c', rfl, hcc, hle, hb⟩ := own_bytes h3
    have hblk : Blk w g 88 cur := hh
    have cell : ∀ i u, xs[i]? = some u → w.cell? ⟨g, i, none⟩ = some u := fun i u hu => by
      rw [hblk.cell]
      rw [← ht, List.getElem?_take] at hu
      split at hu
      · simpa using hu
      · cases hu
    refine ⟨g, 0, A', c', rfl, hblk.lt, ?_, ?_, hcc, hb⟩
    · rw [Nat.zero_add, Nat.mul_comm]; exact cell _ _ h1
    · rw [Nat.zero_add, Nat.mul_comm]; exact cell _ _ h2
end Go.Proofs.Ytmkijkkddoamgaa.RecW

namespace Go.Proofs.Ytmkijkkddoamgaa.Rec
open Go.Proofs.Ytmkijkkddoamgaa.Crc (sumB sumB_lt)

theorem putErr_zero {r : R} (h : putErr r = 0) : fine r.1 = true ∧ r.2.length ≤ 4096 := by
  unfold putErr at h
  split at h
  · rename_i hf
    split at h
    · exact ⟨hf, by assumption⟩
    · cases h
  · cases h
theorem bytes_app (r : R) (more : List UInt8) : bytes r ++ more = four (sumB (rest r)) ++ (r.1 :: (four r.2.length ++ (r.2 ++ more))) := by
  simp [bytes, rest]
theorem take_bytes {r : R} (h : putErr r = 0) (more : List UInt8) : takeErr (bytes r ++ more) = 0 ∧ takeRec (bytes r ++ more) = r ∧ takeEnd (bytes r ++ more) = (bytes r).length := by
  obtain ⟨hf, hl⟩ := putErr_zero h
  have hd5 : (bytes r ++ more).drop 5 = four r.2.length ++ (r.2 ++ more) := by rw [bytes_app]; simp [four]
  have hn : number ((bytes r ++ more).drop 5) = r.2.length := by rw [hd5]; exact number_four (by omega) _
  have hlen := bytes_length r
  have hE : takeEnd (bytes r ++ more) = (bytes r).length := by unfold takeEnd; rw [hn, hlen]; omega
  have ht : (bytes r ++ more).take (9 + number ((bytes r ++ more).drop 5)) = bytes r := by
    have : 9 + number ((bytes r ++ more).drop 5) = (bytes r).length := hE
    rw [this]; simp
  have hd4 : (bytes r).drop 4 = rest r := by unfold bytes; simp [four]
  have hs : number (bytes r ++ more) = sumB (rest r) := by rw [bytes_app]; exact number_four (sumB_lt _) _
  have hk : (bytes r ++ more).getD 4 0 = r.1 := by rw [bytes_app]; simp [four]
  refine ⟨?_, ?_, hE⟩
  · unfold takeErr
    rw [if_neg (by rw [List.length_append, hlen]; omega), if_neg (by rw [hn]; omega), if_neg (by rw [hn, List.length_append, hlen]; omega), ht, hd4, if_neg (by rw [hs]; simp), hk, if_pos hf]
  · unfold takeRec
    rw [hk, hE, List.take_left]
    have : (bytes r).drop 9 = r.2 := by unfold bytes rest; simp [four]
    rw [this]
theorem bytes_inj {r s : R} (hr : putErr r = 0) (hs : putErr s = 0) : bytes r = bytes s ↔ r = s := by
  refine ⟨fun h => ?_, fun h => by rw [h]⟩
  have h1 := (take_bytes hr []).2.1
  have h2 := (take_bytes hs []).2.1
  rw [h] at h1
  exact h1.symm.trans h2
theorem long_bytes {r : R} (h : putErr r = 0) : longOf (r.2.length : Int) = ((bytes r).length : Int) := by
  have := (putErr_zero h).2
  unfold longOf
  rw [if_pos (by omega), bytes_length]; omega
end Go.Proofs.Ytmkijkkddoamgaa.Rec

namespace Go.Proofs.Ytmkijkkddoamgaa.Rec

def flat (rs : List R) : List UInt8 := rs.flatMap bytes
def ends : Nat → List R → List Nat
  | _, [] => []
  | s, r :: t => (s + (bytes r).length) :: ends (s + (bytes r).length) t
def allFine (rs : List R) : Bool := rs.all fun r => putErr r == 0
def weight (rs : List R) : Nat := (rs.map fun r => r.2.length + 9).sum
theorem flat_append (a b : List R) : flat (a ++ b) = flat a ++ flat b := by simp [flat]
theorem flat_one (r : R) : flat [r] = bytes r := by simp [flat]
theorem flat_length (rs : List R) : (flat rs).length = weight rs := by
  induction rs with
  | nil => rfl
  | cons r t ih =>
    rw [show flat (r :: t) = bytes r ++ flat t by simp [flat], List.length_append, ih, bytes_length]
    simp [weight]
theorem weight_append (a b : List R) : weight (a ++ b) = weight a + weight b := by simp [weight]
theorem weight_take (rs : List R) (k : Nat) : weight (rs.take k) ≤ weight rs := by
  have := weight_append (rs.take k) (rs.drop k)
  rw [List.take_append_drop] at this; omega
theorem length_le_weight (rs : List R) : rs.length * 9 ≤ weight rs := by
  induction rs with
  | nil => simp
  | cons r t ih => simp [weight] at ih ⊢; omega
theorem ends_length (s : Nat) (rs : List R) : (ends s rs).length = rs.length := by
  induction rs generalizing s with
  | nil => rfl
  | cons r t ih => simp [ends, ih]
theorem ends_snoc (s : Nat) (rs : List R) (r : R) : ends s (rs ++ [r]) = ends s rs ++ [s + (flat (rs ++ [r])).length] := by
  induction rs generalizing s with
  | nil => simp [ends, flat]
  | cons x t ih =>
    simp only [List.cons_append, ends, ih]
    congr 3
    simp [flat]; omega
theorem ends_get (rs : List R) (k : Nat) (hk : k < rs.length) : (ends 0 rs)[k]'(by rw [ends_length]; exact hk) = (flat (rs.take (k + 1))).length := by
  have key : ∀ (s : Nat) (rs : List R) (k : Nat) (hk : k < rs.length), (ends s rs)[k]'(by rw [ends_length]; exact hk) = s + (flat (rs.take (k + 1))).length := by
    intro s rs
    induction rs generalizing s with
    | nil => intro k hk; simp at hk
    | cons x t ih =>
      intro k hk
      cases k with
      | zero => simp [ends, flat]
      | succ k =>
        simp only [ends, List.getElem_cons_succ, List.take_succ_cons]
        rw [ih _ k (by simpa using hk)]
        simp [flat]; omega
  simpa using key 0 rs k hk
theorem allFine_take {rs : List R} (h : allFine rs = true) (k : Nat) : allFine (rs.take k) = true := by
  unfold allFine at *
  rw [List.all_eq_true] at *
  exact fun r hr => h r (List.mem_of_mem_take hr)
theorem allFine_get {rs : List R} (h : allFine rs = true) (k : Nat) (hk : k < rs.length) : putErr rs[k] = 0 := by
  unfold allFine at h
  rw [List.all_eq_true] at h
  simpa using h rs[k] (List.getElem_mem hk)
theorem not_allFine {rs : List R} {k : Nat} (hk : k < rs.length) (h : putErr rs[k] ≠ 0) : allFine rs = false := by
  rw [Bool.eq_false_iff]
  exact fun hf => h (allFine_get hf k hk)
theorem allFine_snoc {rs : List R} {k : Nat} (hk : k < rs.length) (h : allFine (rs.take k) = true) (h2 : putErr rs[k] = 0) : allFine (rs.take (k + 1)) = true := by
  rw [List.take_succ_eq_append_getElem hk]
  unfold allFine at *
  rw [List.all_append, h]; simp [h2]
/-- All records of records put one behind the other, whatever stands behind. -/
theorem all_flat {rs : List R} (h : allFine rs = true) (more : List UInt8) : all (flat rs ++ more) = (rs ++ (all more).1, (flat rs).length + (all more).2.1, (all more).2.2) := by
  induction rs with
  | nil => simp [flat]
  | cons r t ih =>
    unfold allFine at h
    simp only [List.all_cons, Bool.and_eq_true, beq_iff_eq] at h
    have h1 := take_bytes h.1 (flat t ++ more)
    have e : flat (r :: t) ++ more = bytes r ++ (flat t ++ more) := by simp [flat]
    rw [e, all_ok h1.1, h1.2.1, h1.2.2, List.drop_left, ih h.2]
    have hl : (flat (r :: t)).length = (bytes r).length + (flat t).length := by simp [flat]
    simp [hl, Nat.add_assoc]
/-- What was taken is what was put. -/
theorem bytes_take {b : List UInt8} (h : takeErr b = 0) : putErr (takeRec b) = 0 ∧ bytes (takeRec b) = b.take (takeEnd b) := by
  obtain ⟨h9, hle, h4096, hsum, hf⟩ := takeEnd_le h
  have hd : (takeRec b).2.length = number (b.drop 5) := by
    unfold takeRec; simp only [List.length_drop, List.length_take]; unfold takeEnd at *; omega
  have hk : (takeRec b).1 = b.getD 4 0 := rfl
  refine ⟨by unfold putErr; rw [hk, hf, if_pos rfl, hd, if_pos h4096], ?_⟩
  have e9 : 9 ≤ takeEnd b := by unfold takeEnd; omega
  have four_of : ∀ l : List UInt8, 4 ≤ l.length → four (number l) = l.take 4 := fun l hl => by
    rcases l with _ | ⟨x0, _ | ⟨x1, _ | ⟨x2, _ | ⟨x3, r⟩⟩⟩⟩
    · simp at hl
    · simp at hl
    · simp at hl
    · simp at hl
    · have : number (x0 :: x1 :: x2 :: x3 :: r) = number [x0, x1, x2, x3] := by simp [number]
      rw [this, four_number]; rfl
  have hrest : rest (takeRec b) = (b.take (takeEnd b)).drop 4 := by
    unfold rest
    rw [hd, four_of (b.drop 5) (by rw [List.length_drop]; omega), hk]
    show b.getD 4 0 :: ((b.drop 5).take 4 ++ (b.take (takeEnd b)).drop 9) = _
    have h4 : (b.take (takeEnd b)).drop 4 = b.getD 4 0 :: (b.take (takeEnd b)).drop 5 := by
      rw [List.drop_eq_getElem_cons (by rw [List.length_take]; omega)]
      congr 1
      simp [show 4 < b.length by omega]
    have h5 : (b.take (takeEnd b)).drop 5 = (b.drop 5).take 4 ++ (b.take (takeEnd b)).drop 9 := by
      have := (List.take_append_drop 4 ((b.take (takeEnd b)).drop 5)).symm
      rw [List.drop_drop] at this
      rw [this]
      congr 1
      rw [List.drop_take, List.take_take]
      congr 1
      omega
    rw [h4, h5]
  unfold bytes
  rw [hrest, hsum, four_of b (by omega)]
  have := List.take_append_drop 4 (b.take (takeEnd b))
  rw [List.take_take, Nat.min_eq_left (by omega)] at this
  exact this
/-- What All tells of any bytes is what was put, byte by byte. -/
theorem all_any_bytes (n : Nat) : ∀ b : List UInt8, b.length ≤ n → allFine (all b).1 = true ∧ flat (all b).1 = b.take (all b).2.1 ∧ (all b).2.1 ≤ b.length ∧ ((all b).2.2 = 0 ↔ (all b).2.1 = b.length) := by
  induction n with
  | zero =>
    intro b hb
    have : b = [] := List.eq_nil_of_length_eq_zero (by omega)
    subst this
    simp [all_nil, allFine, flat]
  | succ n ih =>
    intro b hb
    by_cases h0 : b.length = 0
    · have : b = [] := List.eq_nil_of_length_eq_zero h0
      subst this
      simp [all_nil, allFine, flat]
    by_cases he : takeErr b = 0
    · obtain ⟨h9, hle, _, _, _⟩ := takeEnd_le he
      have e9 : 9 ≤ takeEnd b := by unfold takeEnd; omega
      obtain ⟨i1, i2, i3, i4⟩ := ih (b.drop (takeEnd b)) (by rw [List.length_drop]; omega)
      obtain ⟨p1, p2⟩ := bytes_take he
      rw [List.length_drop] at i3 i4
      rw [all_ok he]
      refine ⟨?_, ?_, by dsimp only; omega, ?_⟩
      · unfold allFine at i1 ⊢
        simp [p1, i1]
      · show flat (takeRec b :: _) = _
        rw [show flat (takeRec b :: (all (b.drop (takeEnd b))).1) = bytes (takeRec b) ++ flat (all (b.drop (takeEnd b))).1 by simp [flat], p2, i2]
        dsimp only
        rw [List.take_add]
      · dsimp only
        rw [i4]; omega
    · rw [all_err (by omega) he]
      exact ⟨rfl, rfl, Nat.zero_le _, ⟨fun h => absurd h he, fun h => absurd h.symm h0⟩⟩
end Go.Proofs.Ytmkijkkddoamgaa.Rec

namespace Go.Proofs.Ytmkijkkddoamgaa.Rec
set_option linter.unusedVariables false

theorem le_weight {rs : List R} {r : R} (h : r ∈ rs) : r.2.length + 9 ≤ weight rs := by
  induction rs with
  | nil => cases h
  | cons x t ih =>
    have e : weight (x :: t) = x.2.length + 9 + weight t := by simp [weight]
    rw [e]
    rcases List.mem_cons.1 h with rfl | h
    · omega
    · have := ih h; omega
/-- How many ends are at most k, and the last of these. -/
def cutAt (k : Nat) (l : List Nat) : Nat × Nat := l.foldl (fun p e => if e ≤ k then (p.1 + 1, e) else p) (0, 0)
theorem cutAt_snoc (k : Nat) (l : List Nat) (e : Nat) : cutAt k (l ++ [e]) = if e ≤ k then ((cutAt k l).1 + 1, e) else cutAt k l := by
  simp [cutAt, List.foldl_append]
theorem take_torn {r : R} (h : putErr r = 0) (more : List UInt8) {j : Nat} (h0 : 0 < j) (hj : j < (bytes r).length) : takeErr ((bytes r ++ more).take j) = 32 := by
  obtain ⟨hf, hl⟩ := putErr_zero h
  have hlen := bytes_length r
  have hd5 : (bytes r ++ more).drop 5 = four r.2.length ++ (r.2 ++ more) := by rw [bytes_app]; simp [four]
  have hjl : ((bytes r ++ more).take j).length = j := by rw [List.length_take, List.length_append]; omega
  unfold takeErr
  by_cases h9 : j < 9
  · rw [if_pos (by rw [hjl]; exact h9)]
  · have hn : number (((bytes r ++ more).take j).drop 5) = r.2.length := by
      rw [List.drop_take, hd5]
      have : (four r.2.length ++ (r.2 ++ more)).take (j - 5) = four r.2.length ++ (r.2 ++ more).take (j - 9) := by
        rw [List.take_append, List.take_of_length_le (by rw [four_length]; omega), four_length]
        congr 2
      rw [this]
      exact number_four (by omega) _
    rw [if_neg (by rw [hjl]; exact h9), hn, if_neg (by omega), if_pos (by rw [hjl]; omega)]
/-- Of records that are put, cut at k, the first W lie whole ahead of k, and no more. -/
theorem cutAt_spec {rs : List R} (k : Nat) (hk : k ≤ (flat rs).length) : ∃ W, W ≤ rs.length ∧ cutAt k (ends 0 rs) = (W, (flat (rs.take W)).length) ∧ (flat (rs.take W)).length ≤ k ∧ ∀ h : W < rs.length, k < (flat (rs.take (W + 1))).length := by
  have key : ∀ n, n ≤ rs.length → ∃ W, W ≤ n ∧ cutAt k (ends 0 (rs.take n)) = (W, (flat (rs.take W)).length) ∧ (flat (rs.take W)).length ≤ k ∧ (W < n → k < (flat (rs.take (W + 1))).length) := by
    intro n
    induction n with
    | zero => intro _; exact ⟨0, Nat.le_refl _, by simp [ends, cutAt, flat], by simp [flat], fun h => absurd h (Nat.lt_irrefl _)⟩
    | succ n ih =>
      intro hn
      obtain ⟨W, h1, h2, h3, h4⟩ := ih (by omega)
      have hts := List.take_succ_eq_append_getElem (l := rs) (i := n) (by omega)
      have he : ends 0 (rs.take (n + 1)) = ends 0 (rs.take n) ++ [(flat (rs.take (n + 1))).length] := by rw [hts, ends_snoc, Nat.zero_add]
      rw [he, cutAt_snoc, h2]
      by_cases hle : (flat (rs.take (n + 1))).length ≤ k
      · rw [if_pos hle]
        have hW : W = n := by
          rcases Nat.lt_or_ge W n with hlt | hge
          · have h5 := h4 hlt
            have h6 : (flat (rs.take (W + 1))).length ≤ (flat (rs.take (n + 1))).length := by
              rw [flat_length, flat_length]
              have := weight_take (rs.take (n + 1)) (W + 1)
              rw [List.take_take, Nat.min_eq_left (by omega)] at this
              exact this
            omega
          · omega
        subst hW
        exact ⟨W + 1, Nat.le_refl _, rfl, hle, fun h => absurd h (Nat.lt_irrefl _)⟩
      · rw [if_neg hle]
        refine ⟨W, by omega, rfl, h3, fun _ => ?_⟩
        rcases Nat.lt_or_ge W n with hlt | hge
        · exact h4 hlt
        · have : W = n := by omega
          subst this; omega
  obtain ⟨W, h1, h2, h3, h4⟩ := key rs.length (Nat.le_refl _)
  rw [List.take_length] at h2
  exact ⟨W, h1, h2, h3, h4⟩
theorem all_cut {rs : List R} (h : allFine rs = true) {k : Nat} (hk : k ≤ (flat rs).length) :
    all ((flat rs).take k) = (rs.take (cutAt k (ends 0 rs)).1, (cutAt k (ends 0 rs)).2, if (cutAt k (ends 0 rs)).2 = k then 0 else 32) ∧ (cutAt k (ends 0 rs)).1 ≤ rs.length := by
  obtain ⟨W, h1, h2, h3, h4⟩ := cutAt_spec k hk
  rw [h2]
  refine ⟨?_, h1⟩
  have hsp : flat rs = flat (rs.take W) ++ flat (rs.drop W) := by rw [← flat_append, List.take_append_drop]
  have htk : (flat rs).take k = flat (rs.take W) ++ (flat (rs.drop W)).take (k - (flat (rs.take W)).length) := by
    rw [hsp, List.take_append, List.take_of_length_le h3]
  rw [htk, all_flat (allFine_take h W)]
  dsimp only
  by_cases he : (flat (rs.take W)).length = k
  · rw [if_pos he, he, Nat.sub_self, List.take_zero, all_nil]; simp
  · rw [if_neg he]
    have hW : W < rs.length := by
      rcases Nat.lt_or_ge W rs.length with hlt | hge
      · exact hlt
      · rw [List.take_of_length_le hge] at h3 he; omega
    have h5 := h4 hW
    have hd : rs.drop W = rs[W] :: rs.drop (W + 1) := List.drop_eq_getElem_cons hW
    have hfd : flat (rs.drop W) = bytes rs[W] ++ flat (rs.drop (W + 1)) := by
      rw [hd]; unfold flat; rw [List.flatMap_cons]
    have hfs : (flat (rs.take (W + 1))).length = (flat (rs.take W)).length + (bytes rs[W]).length := by
      rw [List.take_succ_eq_append_getElem hW, flat_append, flat_one, List.length_append]
    have htt := take_torn (allFine_get h W hW) (flat (rs.drop (W + 1))) (j := k - (flat (rs.take W)).length) (by omega) (by omega)
    rw [hfd, all_err (by rw [List.length_take, List.length_append]; omega) (by rw [htt]; decide), htt]
    simp
end Go.Proofs.Ytmkijkkddoamgaa.Rec

namespace Go.Proofs.Ytmkijkkddoamgaa.RecW
set_option linter.unusedVariables false
open Go.RowKit Go.Proofs Go.Proofs.Ytmkijkkddoamgaa Go.Proofs.Ytmkijkkddoamgaa.Wd Go.Proofs.Ytmkijkkddoamgaa.CrcW
open Go.Proofs.Ytmkijkkddoamgaa.Rec (R four number fine takeErr takeEnd takeRec putErr number_lt)

theorem own_cap {w : World} {base : Nat} {e : TypeId} {size n m c : Nat} {A : Option Addr} {xs : List Value} (h : w.ownsRow base e size (.slice A n c) m xs) : c ≤ maxLen := by
  rcases h.2 with ⟨h, _⟩ | ⟨g, cap, cur, h, _, _, _, h8, _⟩
  · simp only [Value.slice.injEq] at h; have := h.2.2; subst this; simp [maxLen]
  · simp only [Value.slice.injEq] at h; have := h.2.2; omega
/-- What is put of a record: its bytes, or none. -/
def putL (r : R) : List UInt8 := if putErr r = 0 then Rec.bytes r else []
def tkRec (b : List UInt8) : R := if takeErr b = 0 then takeRec b else (0, [])
def tkEnd (b : List UInt8) : Nat := if takeErr b = 0 then takeEnd b else 0
theorem Wrote.out {w w' : World} {r : R} {e : Ending} (h : Wrote w r e w') :
    ∃ A c, e = .returned (.tuple #[.slice A (putL r).length c, .int .i64 (putErr r : Nat)]) ∧ Below w.heap.size w w' ∧ (putL r).length ≤ c ∧ c ≤ maxLen ∧ w'.ownsRow w.heap.size 5 1 (.slice A (putL r).length c) (putL r).length (bs (putL r)) := by
  obtain ⟨v, h1, h2, h3, h4⟩ := h
  by_cases he : putErr r = 0
  · have ho := h4 he
    have hp : putL r = Rec.bytes r := by unfold putL; rw [if_pos he]
    rw [hp]
    obtain ⟨A, c, rfl, hc, _, _⟩ := own_bytes ho
    exact ⟨A, c, h1, h2, hc, own_cap ho, ho⟩
  · have hp : putL r = [] := by unfold putL; rw [if_neg he]
    rw [hp]
    have := h3 he
    subst this
    exact ⟨none, 0, h1, h2, Nat.le_refl _, by simp [maxLen], own_nil _ _ _⟩
theorem Took.out {w w' : World} {b : List UInt8} {e : Ending} (h : Took w b e w') :
    ∃ A c, e = .returned (.tuple #[.agg #[.int .u8 ((tkRec b).1.toNat : Nat), .slice A (tkRec b).2.length c], .int .i64 (tkEnd b : Nat), .int .i64 (takeErr b : Nat)]) ∧ Below w.heap.size w w' ∧ (tkRec b).2.length ≤ c ∧ c ≤ maxLen ∧
      w'.ownsRow w.heap.size 5 1 (.slice A (tkRec b).2.length c) (tkRec b).2.length (bs (tkRec b).2) := by
  obtain ⟨k, d, v, m, h1, h2, h3, h4, h5⟩ := h
  by_cases he : takeErr b = 0
  · obtain ⟨hr, rfl⟩ := h4 he
    have hp : tkRec b = (k, d) := by unfold tkRec; rw [if_pos he, hr]
    have hm : tkEnd b = takeEnd b := by unfold tkEnd; rw [if_pos he]
    rw [hp, hm]
    obtain ⟨A, c, rfl, hc, _, _⟩ := own_bytes h3
    exact ⟨A, c, h1, h2, hc, own_cap h3, h3⟩
  · obtain ⟨rfl, rfl, rfl, rfl⟩ := h5 he
    have hp : tkRec b = (0, []) := by unfold tkRec; rw [if_neg he]
    have hm : tkEnd b = 0 := by unfold tkEnd; rw [if_neg he]
    rw [hp, hm]
    exact ⟨none, 0, h1, h2, Nat.le_refl _, by simp [maxLen], h3⟩
theorem AllOut.out {w w' : World} {b : List UInt8} {e : Ending} (h : AllOut w b e w') :
    ∃ A c, e = .returned (.tuple #[.slice A (Rec.all b).1.length c, .int .i64 ((Rec.all b).2.1 : Nat), .int .i64 ((Rec.all b).2.2 : Nat)]) ∧ Below w.heap.size w w' ∧ (Rec.all b).1.length ≤ c ∧ c ≤ maxLen ∧ Recs w' w'.heap.size A (Rec.all b).1 := by
  obtain ⟨v, xs, h1, h2, h3, h4⟩ := h
  obtain ⟨A, c, rfl, hc, _, hr⟩ := own_recs h3 h4
  exact ⟨A, c, h1, h2, hc, own_cap h3, hr⟩
end Go.Proofs.Ytmkijkkddoamgaa.RecW

namespace Go.Proofs.Ytmkijkkddoamgaa.RecW
set_option linter.unusedVariables false
open Go.RowKit Go.Proofs Go.Proofs.Ytmkijkkddoamgaa Go.Proofs.Ytmkijkkddoamgaa.Wd Go.Proofs.Ytmkijkkddoamgaa.CrcW
open Go.Proofs.Ytmkijkkddoamgaa.Crc (sumB sumB_lt)
open Go.Proofs.Ytmkijkkddoamgaa.Rec (R four number fine takeErr takeEnd takeRec putErr number_lt)

theorem four_get (n k : Nat) (hk : k < 4) : (four n)[k]'(by simpa [Rec.four_length] using hk) = UInt8.ofNat (n / 256 ^ k) := by
  unfold four
  match k, hk with
  | 0, _ => simp
  | 1, _ => simp
  | 2, _ => simp
  | 3, _ => simp
theorem four_snoc (n k : Nat) (hk : k < 4) : bs ((four n).take (k + 1)) = bs ((four n).take k) ++ [.int .u8 (((n / 256 ^ k % 256 : Nat)) : Int)] := by
  rw [List.take_succ_eq_append_getElem (by simpa [Rec.four_length] using hk), bs_append, four_get n k hk]
  simp [bs, UInt8.toNat_ofNat']

theorem ret_i64 {a b : Int} (h : a = b) : Ending.returned (.int .i64 a) = .returned (.int .i64 b) := by rw [h]
theorem number_wrap {x0 x1 x2 x3 : Nat} (b0 : x0 < 256) (b1 : x1 < 256) (b2 : x2 < 256) (b3 : x3 < 256) :
    wrap64 (wrap64 (wrap64 (wrap64 (x0 : Int) + wrap64 (256 * wrap64 (x1 : Int))) + wrap64 (65536 * wrap64 (x2 : Int))) + wrap64 (16777216 * wrap64 (x3 : Int))) = ((x0 + 256 * x1 + 65536 * x2 + 16777216 * x3 : Nat) : Int) := by
  have w0 : wrap64 (x0 : Int) = (x0 : Int) := IntWalk.wrap64_in _ (by omega)
  have w1 : wrap64 (x1 : Int) = (x1 : Int) := IntWalk.wrap64_in _ (by omega)
  have w2 : wrap64 (x2 : Int) = (x2 : Int) := IntWalk.wrap64_in _ (by omega)
  have w3 : wrap64 (x3 : Int) = (x3 : Int) := IntWalk.wrap64_in _ (by omega)
  have s1 : wrap64 (256 * (x1 : Int)) = 256 * (x1 : Int) := IntWalk.wrap64_in _ (by omega)
  have s2 : wrap64 (65536 * (x2 : Int)) = 65536 * (x2 : Int) := IntWalk.wrap64_in _ (by omega)
  have s3 : wrap64 (16777216 * (x3 : Int)) = 16777216 * (x3 : Int) := IntWalk.wrap64_in _ (by omega)
  rw [w0, w1, w2, w3, s1, s2, s3, IntWalk.wrap64_in ((x0 : Int) + 256 * (x1 : Int)) (by omega), IntWalk.wrap64_in ((x0 : Int) + 256 * (x1 : Int) + 65536 * (x2 : Int)) (by omega), IntWalk.wrap64_in ((x0 : Int) + 256 * (x1 : Int) + 65536 * (x2 : Int) + 16777216 * (x3 : Int)) (by omega)]
  omega
end Go.Proofs.Ytmkijkkddoamgaa.RecW
