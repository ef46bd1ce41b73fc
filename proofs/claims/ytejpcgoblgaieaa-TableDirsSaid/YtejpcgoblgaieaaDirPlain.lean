/-
  The bytes of a directory, and the directory of bytes: plain lemmas.
-/
import Derived.Test.YtejpcgoblgaieaaBackPlain
set_option linter.unusedVariables false
set_option linter.unusedSimpArgs false
namespace Go.Proofs.Ytejpcgoblgaieaa
/-- The bytes of some leaves' places. -/
def leavesB (L : List Int) : List Int := L.flatMap fun x => four x.toNat
theorem leavesB_cons (x : Int) (L : List Int) : leavesB (x :: L) = four x.toNat ++ leavesB L := rfl
theorem leavesB_append (L M : List Int) : leavesB (L ++ M) = leavesB L ++ leavesB M := by simp [leavesB]
theorem leavesB_length (L : List Int) : (leavesB L).length = 4 * L.length := by
  induction L with
  | nil => rfl
  | cons x L ih => rw [leavesB_cons, List.length_append, ih, List.length_cons]; simp [four]; omega
theorem leavesB_snoc (L : List Int) (k : Nat) (h : k < L.length) : leavesB (L.take (k + 1)) = leavesB (L.take k) ++ four (L.getD k 0).toNat := by
  rw [List.take_succ_eq_append_getElem h, leavesB_append, leavesB_cons]
  simp [leavesB, List.getD_eq_getElem?_getD, List.getElem?_eq_getElem h]
def zeros (n : Nat) : List Int := List.replicate n 0
/-- A directory's bytes. -/
def dirB (L : List Int) (S : List Bool) : List Int := leavesB L ++ bytesOf S ++ zeros 432
def okL (L : List Int) : Bool := L.all okV
theorem okV_nat {x : Int} (h : okV x = true) : ∃ n : Nat, x = n ∧ n < 512 := by
  simp [okV, okP] at h
  exact ⟨x.toNat, by omega, by omega⟩
theorem okL_at {L : List Int} (h : okL L = true) (k : Nat) (hk : k < L.length) : okV (L.getD k 0) = true := by
  rw [List.getD_eq_getElem?_getD, List.getElem?_eq_getElem hk]
  exact List.all_eq_true.1 h _ (List.getElem_mem _)
theorem okL_bad {L : List Int} {k : Nat} (hk : k < L.length) (h : okV (L.getD k 0) = false) : okL L = false := by
  rw [Bool.eq_false_iff]
  intro hh
  rw [okL_at hh k hk] at h; cases h
theorem okL_take {L : List Int} (k : Nat) (hk : k < L.length) : okL (L.take (k + 1)) = (okL (L.take k) && okV (L.getD k 0)) := by
  unfold okL
  rw [List.take_succ_eq_append_getElem hk, List.all_append]
  simp [List.getD_eq_getElem?_getD, List.getElem?_eq_getElem hk]
theorem zeros_length (n : Nat) : (zeros n).length = n := List.length_replicate
theorem need512 : need 512 = 64 := rfl
theorem dirB_length {L : List Int} {S : List Bool} (hl : L.length = 4) (hs : S.length = 512) : (dirB L S).length = 512 := by
  rw [dirB, List.length_append, List.length_append, leavesB_length, bytesOf_length, hl, hs, need512, zeros_length]
theorem bytes_append {xs ys : List Int} (hx : Bytes xs) (hy : Bytes ys) : Bytes (xs ++ ys) := fun x h => by
  rcases List.mem_append.1 h with h | h
  · exact hx x h
  · exact hy x h
theorem bytes_four {n : Nat} (h : n < 512) : Bytes (four n) := by
  intro x hx
  simp only [four, List.mem_cons, List.not_mem_nil, or_false] at hx
  rcases hx with rfl | rfl | rfl | rfl <;> omega
theorem bytes_leaves {L : List Int} (h : okL L = true) : Bytes (leavesB L) := by
  intro x hx
  simp only [leavesB, List.mem_flatMap] at hx
  obtain ⟨y, hy, hx⟩ := hx
  obtain ⟨n, rfl, hn⟩ := okV_nat (List.all_eq_true.1 h y hy)
  rw [Int.toNat_natCast] at hx
  exact bytes_four hn x hx
theorem bytes_zeros (n : Nat) : Bytes (zeros n) := fun x hx => by rw [List.eq_of_mem_replicate hx]; omega
theorem dirB_bytes {L : List Int} {S : List Bool} (h : okL L = true) : Bytes (dirB L S) := bytes_append (bytes_append (bytes_leaves h) (bytesOf_range S)) (bytes_zeros 432)
/-- The leaves' places that bytes tell. -/
def dirL (xs : List Int) : List Int := [val4 xs 0, val4 xs 4, val4 xs 8, val4 xs 12]
def dirY (xs : List Int) : List Int := (xs.drop 16).take 64
/-- Are bytes those of a directory? -/
def dirOK (xs : List Int) : Bool := okL (dirL xs) && decide (xs.drop 80 = zeros 432)
theorem dirL_getD (xs : List Int) (k : Nat) (hk : k < 4) : (dirL xs).getD k 0 = val4 xs (4 * k) := by
  match k, hk with
  | 0, _ => rfl
  | 1, _ => rfl
  | 2, _ => rfl
  | 3, _ => rfl
theorem four_val {xs : List Int} (hx : Bytes xs) (k : Nat) (h : okV (val4 xs k) = true) : four (val4 xs k).toNat = [xs.getD k 0, xs.getD (k + 1) 0, xs.getD (k + 2) 0, xs.getD (k + 3) 0] := by
  obtain ⟨x0, e0, l0⟩ := hx.at k
  obtain ⟨x1, e1, l1⟩ := hx.at (k + 1)
  obtain ⟨x2, e2, l2⟩ := hx.at (k + 2)
  obtain ⟨x3, e3, l3⟩ := hx.at (k + 3)
  obtain ⟨n, hn, hn5⟩ := okV_nat h
  rw [hn, Int.toNat_natCast, e0, e1, e2, e3]
  rw [val4, e0, e1, e2, e3] at hn
  have h0 : x0 = 0 := by omega
  have h1 : x1 = 0 := by omega
  subst h0 h1
  simp only [four]
  rw [show (n : Int) / 16777216 = ((0 : Nat) : Int) by omega, show (n : Int) / 65536 = ((0 : Nat) : Int) by omega, show (n : Int) / 256 = x2 by omega, show (n : Int) % 256 = x3 by omega]
theorem take4 {xs : List Int} (k : Nat) (h : k + 4 ≤ xs.length) : (xs.drop k).take 4 = [xs.getD k 0, xs.getD (k + 1) 0, xs.getD (k + 2) 0, xs.getD (k + 3) 0] := by
  apply List.ext_getElem?
  intro j
  rw [List.getElem?_take]
  match j with
  | 0 => simp [List.getD_eq_getElem?_getD, List.getElem?_eq_getElem (show k < xs.length by omega)]
  | 1 => simp [List.getD_eq_getElem?_getD, List.getElem?_eq_getElem (show k + 1 < xs.length by omega)]
  | 2 => simp [List.getD_eq_getElem?_getD, List.getElem?_eq_getElem (show k + 2 < xs.length by omega)]
  | 3 => simp [List.getD_eq_getElem?_getD, List.getElem?_eq_getElem (show k + 3 < xs.length by omega)]
  | j + 4 => rw [if_neg (by omega)]; simp
theorem take16 {xs : List Int} (hl : xs.length = 512) : (xs.drop 0).take 4 ++ ((xs.drop 4).take 4 ++ ((xs.drop 8).take 4 ++ (xs.drop 12).take 4)) = xs.take 16 := by
  have h1 := List.take_add (l := xs) (i := 4) (j := 12)
  have h2 := List.take_add (l := xs.drop 4) (i := 4) (j := 8)
  have h3 := List.take_add (l := xs.drop 8) (i := 4) (j := 4)
  rw [List.drop_drop] at h2 h3
  rw [h1, h2, h3, List.drop_zero]
theorem leaves_take {xs : List Int} (hx : Bytes xs) (hl : xs.length = 512) (h : okL (dirL xs) = true) : leavesB (dirL xs) = xs.take 16 := by
  simp [okL, dirL] at h
  obtain ⟨h0, h1, h2, h3⟩ := h
  rw [dirL, leavesB_cons, leavesB_cons, leavesB_cons, leavesB_cons, four_val hx 0 h0, four_val hx 4 h1, four_val hx 8 h2, four_val hx 12 h3,
    ← take4 0 (by omega), ← take4 4 (by omega), ← take4 8 (by omega), ← take4 12 (by omega), show leavesB [] = [] from rfl, List.append_nil]
  exact take16 hl
theorem dirY_length {xs : List Int} (hl : xs.length = 512) : (dirY xs).length = 64 := by rw [dirY, List.length_take, List.length_drop, hl]; rfl
theorem dirY_bytes {xs : List Int} (hx : Bytes xs) : Bytes (dirY xs) := fun x h => hx x (List.mem_of_mem_drop (List.mem_of_mem_take h))
theorem no_stray {ys : List Int} (h : ys.length = 64) : stray 512 ys = false := stray_none (fun i h0 h1 => by omega)
theorem dir_set {xs : List Int} (hx : Bytes xs) (hl : xs.length = 512) : bytesOf (truths 512 (dirY xs)) = dirY xs :=
  bytesOf_truths ((dirY_length hl).trans need512.symm) (dirY_bytes hx) (no_stray (dirY_length hl))
theorem parts {xs : List Int} (hl : xs.length = 512) : xs = xs.take 16 ++ dirY xs ++ xs.drop 80 := by
  have h1 := List.take_append_drop 16 xs
  have h2 := List.take_append_drop 64 (xs.drop 16)
  rw [List.drop_drop] at h2
  rw [List.append_assoc, dirY, h2, h1]
/-- Encoded again, bytes are as they were just if what is behind the set is 0. -/
theorem again_eq {xs : List Int} (hx : Bytes xs) (hl : xs.length = 512) (h : okL (dirL xs) = true) : (dirB (dirL xs) (truths 512 (dirY xs)) = xs) ↔ xs.drop 80 = zeros 432 := by
  rw [dirB, dir_set hx hl, leaves_take hx hl h]
  constructor
  · intro hh
    have hp := parts hl
    rw [hp] at hh
    have := List.append_cancel_left (hh.trans (by rw [← hp]; exact hp))
    exact this.symm
  · intro hh
    rw [← hh]; exact (parts hl).symm
end Go.Proofs.Ytejpcgoblgaieaa
