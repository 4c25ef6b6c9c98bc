/-
  The walk of the law's seen; the chapter's examples.
-/
import Derived.Test.YtifmnoepifgaiaaNameAll
namespace Go.Proofs.Ytifmnoepifgaiaa.NmW
set_option linter.unusedVariables false
open Go Go.RowKit Go.Maps Go.Sort Go.Shelf Go.Proofs Go.Proofs.Ytifmnoepifgaiaa Go.Proofs.Ytifmnoepifgaiaa.Wd Go.Proofs.Ytifmnoepifgaiaa.ScW Go.Proofs.Ytifmnoepifgaiaa.Nm Go.Proofs.Ytifmnoepifgaiaa.NmL
open Go.Proofs.Ytifmnoepifgaiaa.Sc (N own flow rightAt right chain place chainI deep over below owned)

/-- Is just that place seen (a negative number: nobody)? -/
def seenB (ns : List N) (ss : List Str) (i : Int) (s : Str) (want : Int) : Bool := decide ((seenN ns ss i s).map (fun k : Nat => (k : Int)) = if 0 ≤ want then some want else none)
set_option maxRecDepth 100000 in
set_option maxHeartbeats 8000000 in
theorem lseen_any (A : Option Addr) (c : Nat) (ns : List N) (ss : List Str) (n : Nat) (hn : n = ns.length) (hnc : n ≤ c) (hcm : c ≤ maxLen) (hnb : n ≤ 1000000000) (hr : right ns = true) (hg : ∀ k, k < n → KOk (key ns ss k)) (i : Int) (s : ByteArray) (hs : s.size ≤ maxLen) (want : Int) (w : World) (hI : NNodes w w.heap.size A ns ss) :
    Calls Try.prog 15 #[.slice A n c, .int .i64 i, .string s, .int .i64 want] w fun e w' => e = .returned (.bool (seenB ns ss i s want)) ∧ Below w.heap.size w w' := by
  have HT := Lib.hid (seen_any A c ns ss n hn hnc hcm hnb hr hg i s hs w hI)
  have HB : Hid (seenB ns ss i s want = decide ((seenN ns ss i s).map (fun k : Nat => (k : Int)) = if 0 ≤ want then some want else none)) := Lib.hid rfl
  clear hn hg hI
  go_enter Try.func15, Try.ntmps15
  go_wp2_with fail
  refine HT.out.mono ?_
  rintro e w1 ⟨rfl, B1⟩
  have HB1 := Lib.hid B1
  clear HT B1
  generalize seenN ns ss i s = r at *
  cases r with
  | none =>
    by_cases hw : 0 ≤ want
    · go_wp2_with fail
      go_ret
      exact ⟨by rw [HB.out, if_pos hw]; simp, HB1.out⟩
    · have HW := Lib.hid hw
      go_wp2_with fail
      go_ret
      exact ⟨by rw [HB.out, if_neg (Int.not_le.2 HW.out)]; simp [HW.out], HB1.out⟩
  | some v =>
    by_cases hw : 0 ≤ want
    · by_cases hv : (v : Int) = want
      · have u1 : ((v : Int) == want) = true := by simpa using hv
        go_wp2_with fail
        go_ret
        exact ⟨by rw [HB.out, if_pos hw]; simp [hv], HB1.out⟩
      · have u1 : ((v : Int) == want) = false := by simpa using hv
        go_wp2_with fail
        go_ret
        exact ⟨by rw [HB.out, if_pos hw]; simp [hv], HB1.out⟩
    · have HW := Lib.hid hw
      go_wp2_with fail
      go_ret
      exact ⟨by rw [HB.out, if_neg (Int.not_le.2 HW.out)]; simp, HB1.out⟩
/-- The chapter's example. -/
def egN : List N := [(-1, 0), (-1, 0), (0, 0), (0, 0), (3, 0)]
def sb (x : UInt8) : Str := ⟨#[x]⟩
def egS : List Str := [sb 97, sb 98, sb 98, sb 99, sb 100]
theorem egN_right : right egN = true := by decide
theorem egN0 : chain egN 0 = [] := Sc.chain_none (by decide)
theorem egN1 : chain egN 1 = [] := Sc.chain_none (by decide)
theorem egN3 : chain egN 3 = [0] := by
  rw [Sc.chain_some (ns := egN) (i := 3) (by decide) (by decide), show (own egN 3).toNat = 0 from rfl, egN0]
theorem egN4 : chain egN 4 = [3, 0] := by
  rw [Sc.chain_some (ns := egN) (i := 4) (by decide) (by decide), show (own egN 4).toNat = 3 from rfl, egN3]
theorem egN_own4 : ownersI egN 4 = [3, 0, -1] := by
  unfold ownersI chainI
  rw [if_pos (by decide), show (4 : Int).toNat = 4 from rfl, egN4]
  rfl
theorem egN_own1 : ownersI egN 1 = [-1] := by
  unfold ownersI chainI
  rw [if_pos (by decide), show (1 : Int).toNat = 1 from rfl, egN1]
  rfl
theorem seenB4 (s : Str) (want : Int) (h : (seenL egN egS 0 s [3, 0, -1]).map (fun k : Nat => (k : Int)) = if 0 ≤ want then some want else none) : seenB egN egS 4 s want = true := by
  unfold seenB
  rw [seen_eq (by decide), egN_own4]
  exact decide_eq_true h
theorem seenB1 (s : Str) (want : Int) (h : (seenL egN egS 0 s [-1]).map (fun k : Nat => (k : Int)) = if 0 ≤ want then some want else none) : seenB egN egS 1 s want = true := by
  unfold seenB
  rw [seen_eq (by decide), egN_own1]
  exact decide_eq_true h
theorem eg_s1 : seenB egN egS 4 (sb 98) 2 = true := seenB4 _ _ (by decide)
theorem eg_s2 : seenB egN egS 4 (sb 97) 0 = true := seenB4 _ _ (by decide)
theorem eg_s3 : seenB egN egS 4 (sb 99) 3 = true := seenB4 _ _ (by decide)
theorem eg_s4 : seenB egN egS 4 (sb 120) (-1) = true := seenB4 _ _ (by decide)
theorem eg_s5 : seenB egN egS 1 (sb 99) (-1) = true := seenB1 _ _ (by decide)
theorem eg_tw : twiceTo egN egS 5 = false := by decide
theorem eg_all (x : List UInt8) : namesN egN egS 4 x ↔ x ∈ ([[97], [98], [99], [100]] : List (List UInt8)) := by
  unfold namesN namesL
  rw [egN_own4, show (4 : Int).toNat = 4 from rfl, show flow egN 4 = 0 from rfl]
  have h3 : owned egN 0 3 = [4] := by decide
  have h0 : owned egN 0 0 = [2, 3] := by decide
  have h1 : owned egN 0 (-1) = [0, 1] := by decide
  simp only [List.mem_cons, List.not_mem_nil, or_false, exists_eq_or_imp, exists_eq_left, h3, h0, h1]
  have n0 : (nm egS 0).data.toList = [97] := rfl
  have n1 : (nm egS 1).data.toList = [98] := rfl
  have n2 : (nm egS 2).data.toList = [98] := rfl
  have n3 : (nm egS 3).data.toList = [99] := rfl
  have n4 : (nm egS 4).data.toList = [100] := rfl
  rw [n0, n1, n2, n3, n4]
  constructor
  · rintro ⟨-, -, h⟩
    rcases h with h | (h | h) | (h | h) <;> subst h <;> simp
  · rintro (h | h | h | h) <;> subst h <;> exact ⟨by decide, by simp, by simp⟩
theorem sorted_unique {a b : List (List UInt8)} (ha : a.Pairwise (· < ·)) (hb : b.Pairwise (· < ·)) (h : ∀ x, x ∈ a ↔ x ∈ b) : a = b := by
  have na : a.Nodup := ha.imp fun {x y} h e => by subst e; exact List.lt_irrefl x h
  have nb : b.Nodup := hb.imp fun {x y} h e => by subst e; exact List.lt_irrefl x h
  exact ((List.perm_ext_iff_of_nodup na nb).2 h).eq_of_pairwise (fun x y _ _ h1 h2 => absurd (List.lt_trans h1 h2) (List.lt_irrefl x)) ha hb
end Go.Proofs.Ytifmnoepifgaiaa.NmW
