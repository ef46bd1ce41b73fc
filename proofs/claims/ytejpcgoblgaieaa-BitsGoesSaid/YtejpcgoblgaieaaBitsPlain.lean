/-
  Plain lemmas on sets of small numbers as rows of truths and as rows of bytes. No program stands here.
-/
import Derived.WalkKit
import Derived.Laws.BitsAllLaws
set_option linter.unusedVariables false
set_option linter.unusedSimpArgs false
namespace Go.Proofs.Ytejpcgoblgaieaa
open Go.RowKit

/-- A truth as a number. -/
def b8 (b : Bool) : Nat := if b then 1 else 0
/-- Eight truths as a byte, the first one in the lowest bit. -/
def by8 (b0 b1 b2 b3 b4 b5 b6 b7 : Bool) : Nat := b8 b0 + 2 * b8 b1 + 4 * b8 b2 + 8 * b8 b3 + 16 * b8 b4 + 32 * b8 b5 + 64 * b8 b6 + 128 * b8 b7
/-- Truth i of a row; false behind its end. -/
def tr (S : List Bool) (i : Nat) : Bool := S.getD i false
/-- Byte j of a row of truths. -/
def byteOf (S : List Bool) (j : Nat) : Nat := by8 (tr S (8*j)) (tr S (8*j+1)) (tr S (8*j+2)) (tr S (8*j+3)) (tr S (8*j+4)) (tr S (8*j+5)) (tr S (8*j+6)) (tr S (8*j+7))
/-- How many bytes a row of n truths needs. -/
def need (n : Nat) : Nat := (n + 7) / 8
def bytesOf (S : List Bool) : List Int := (List.range (need S.length)).map fun j => (byteOf S j : Int)

theorem bytesOf_length (S : List Bool) : (bytesOf S).length = need S.length := by simp [bytesOf]
theorem by8_lt : ∀ b0 b1 b2 b3 b4 b5 b6 b7, by8 b0 b1 b2 b3 b4 b5 b6 b7 < 256 := by decide +kernel
theorem byteOf_lt (S : List Bool) (j : Nat) : byteOf S j < 256 := by8_lt ..
theorem by8_bit : ∀ b0 b1 b2 b3 b4 b5 b6 b7, ∀ k : Fin 8, (((by8 b0 b1 b2 b3 b4 b5 b6 b7 / 2 ^ k.val) &&& 1) == 1) = [b0, b1, b2, b3, b4, b5, b6, b7].getD k.val false := by decide +kernel
theorem by8_put : ∀ b0 b1 b2 b3 b4 b5 b6 b7, ∀ k : Fin 8, by8 b0 b1 b2 b3 b4 b5 b6 b7 ||| 2 ^ k.val =
    by8 (b0 || k == 0) (b1 || k == 1) (b2 || k == 2) (b3 || k == 3) (b4 || k == 4) (b5 || k == 5) (b6 || k == 6) (b7 || k == 7) := by decide +kernel
theorem by8_drop : ∀ b0 b1 b2 b3 b4 b5 b6 b7, ∀ k : Fin 8, by8 b0 b1 b2 b3 b4 b5 b6 b7 &&& (255 - 2 ^ k.val) =
    by8 (b0 && k != 0) (b1 && k != 1) (b2 && k != 2) (b3 && k != 3) (b4 && k != 4) (b5 && k != 5) (b6 && k != 6) (b7 && k != 7) := by decide +kernel

theorem tr_set (S : List Bool) (i : Nat) (x : Bool) (hi : i < S.length) (j : Nat) : tr (S.set i x) j = if j = i then x else tr S j := by
  unfold tr
  rw [List.getD_eq_getElem?_getD, List.getD_eq_getElem?_getD, List.getElem?_set]
  by_cases h : i = j
  · subst h; simp [hi]
  · rw [if_neg h, if_neg (fun e => h e.symm)]
theorem tr_out (S : List Bool) (i : Nat) (h : S.length ≤ i) : tr S i = false := by
  unfold tr; rw [List.getD_eq_getElem?_getD, List.getElem?_eq_none h]; rfl
theorem tr_get (S : List Bool) (i : Nat) (h : i < S.length) : S[i] = tr S i := by
  unfold tr; rw [List.getD_eq_getElem?_getD, List.getElem?_eq_getElem h]; rfl
theorem ext_tr {S S' : List Bool} (hl : S.length = S'.length) (h : ∀ i, i < S.length → tr S i = tr S' i) : S = S' := by
  apply List.ext_getElem hl
  intro i h1 h2
  rw [tr_get _ _ h1, tr_get _ _ h2, h i h1]

/-- The bit of a number in its byte. -/
theorem byteOf_bit' (S : List Bool) (j : Nat) (k : Fin 8) : ((byteOf S j / 2 ^ k.val &&& 1) == 1) = tr S (8 * j + k.val) := by
  refine (by8_bit _ _ _ _ _ _ _ _ k).trans ?_
  match k with
  | 0 => rfl | 1 => rfl | 2 => rfl | 3 => rfl | 4 => rfl | 5 => rfl | 6 => rfl | 7 => rfl
theorem byteOf_bit (S : List Bool) (i : Nat) : ((byteOf S (i / 8) / 2 ^ (i % 8) &&& 1) == 1) = tr S i := by
  have h := byteOf_bit' S (i / 8) ⟨i % 8, by omega⟩
  have e : 8 * (i / 8) + i % 8 = i := by omega
  simp only [e] at h
  exact h

theorem byteOf_set_other (S : List Bool) (i : Nat) (x : Bool) (j : Nat) (hj : j ≠ i / 8) : byteOf (S.set i x) j = byteOf S j := by
  by_cases hi : i < S.length
  · unfold byteOf
    simp only [tr_set S i x hi]
    rw [if_neg (by omega), if_neg (by omega), if_neg (by omega), if_neg (by omega), if_neg (by omega), if_neg (by omega), if_neg (by omega), if_neg (by omega)]
  · rw [List.set_eq_of_length_le (by omega)]

theorem byteOf_put' (S : List Bool) (j : Nat) (k : Fin 8) (hi : 8 * j + k.val < S.length) : byteOf (S.set (8 * j + k.val) true) j = byteOf S j ||| 2 ^ k.val := by
  refine Eq.trans ?_ (by8_put _ _ _ _ _ _ _ _ k).symm
  unfold byteOf
  simp only [tr_set S (8 * j + k.val) true hi]
  match k with
  | ⟨0, _⟩ => simp | ⟨1, _⟩ => simp | ⟨2, _⟩ => simp | ⟨3, _⟩ => simp | ⟨4, _⟩ => simp | ⟨5, _⟩ => simp | ⟨6, _⟩ => simp | ⟨7, _⟩ => simp
theorem byteOf_put (S : List Bool) (i : Nat) (hi : i < S.length) : byteOf (S.set i true) (i / 8) = byteOf S (i / 8) ||| 2 ^ (i % 8) := by
  have e : 8 * (i / 8) + i % 8 = i := by omega
  have h := byteOf_put' S (i / 8) ⟨i % 8, by omega⟩ (by simp only [e]; exact hi)
  simp only [e] at h
  exact h

theorem byteOf_drop' (S : List Bool) (j : Nat) (k : Fin 8) (hi : 8 * j + k.val < S.length) : byteOf (S.set (8 * j + k.val) false) j = byteOf S j &&& (255 - 2 ^ k.val) := by
  refine Eq.trans ?_ (by8_drop _ _ _ _ _ _ _ _ k).symm
  unfold byteOf
  simp only [tr_set S (8 * j + k.val) false hi]
  match k with
  | ⟨0, _⟩ => simp | ⟨1, _⟩ => simp | ⟨2, _⟩ => simp | ⟨3, _⟩ => simp | ⟨4, _⟩ => simp | ⟨5, _⟩ => simp | ⟨6, _⟩ => simp | ⟨7, _⟩ => simp
theorem byteOf_drop (S : List Bool) (i : Nat) (hi : i < S.length) : byteOf (S.set i false) (i / 8) = byteOf S (i / 8) &&& (255 - 2 ^ (i % 8)) := by
  have e : 8 * (i / 8) + i % 8 = i := by omega
  have h := byteOf_drop' S (i / 8) ⟨i % 8, by omega⟩ (by simp only [e]; exact hi)
  simp only [e] at h
  exact h

theorem pow8_lt : ∀ k : Fin 8, 2 ^ k.val < 256 := by decide
theorem bits_has (S : List Bool) (i : Nat) : (bits .and .u8 ((byteOf S (i / 8) : Int) / 2 ^ (i % 8)) 1 == 1) = tr S i := by
  have e : ((byteOf S (i / 8) : Int) / 2 ^ (i % 8)) = ((byteOf S (i / 8) / 2 ^ (i % 8) : Nat) : Int) := by
    rw [Int.natCast_ediv, Int.natCast_pow]; rfl
  have hb := byteOf_lt S (i / 8)
  have hle : byteOf S (i / 8) / 2 ^ (i % 8) ≤ byteOf S (i / 8) := Nat.div_le_self _ _
  have h1 := u8_and_nat (byteOf S (i / 8) / 2 ^ (i % 8)) 1 (by omega) (by omega)
  rw [← byteOf_bit S i, e, show (bits .and .u8 ((byteOf S (i / 8) / 2 ^ (i % 8) : Nat) : Int) 1) = ((byteOf S (i / 8) / 2 ^ (i % 8) &&& 1 : Nat) : Int) from h1]
  generalize (byteOf S (i / 8) / 2 ^ (i % 8) &&& 1) = y
  rw [Bool.eq_iff_iff, beq_iff_eq, beq_iff_eq]; omega
theorem bits_put (S : List Bool) (i : Nat) (hi : i < S.length) : bits .or .u8 (byteOf S (i / 8) : Int) ((2 ^ (i % 8) : Nat) : Int) = (byteOf (S.set i true) (i / 8) : Int) := by
  rw [u8_or_nat _ _ (byteOf_lt _ _) (pow8_lt ⟨i % 8, by omega⟩), byteOf_put S i hi]
theorem bits_drop (S : List Bool) (i : Nat) (hi : i < S.length) : bits .andNot .u8 (byteOf S (i / 8) : Int) ((2 ^ (i % 8) : Nat) : Int) = (byteOf (S.set i false) (i / 8) : Int) := by
  rw [u8_andNot_nat _ _ (byteOf_lt _ _) (pow8_lt ⟨i % 8, by omega⟩), byteOf_drop S i hi]
theorem pow_u8 (i : Nat) : ((2 : Int) ^ (i % 8) % 256) = ((2 ^ (i % 8) : Nat) : Int) := by
  have h := pow8_lt ⟨i % 8, by omega⟩
  have e : ((2 : Int) ^ (i % 8)) = ((2 ^ (i % 8) : Nat) : Int) := by rw [Int.natCast_pow]; rfl
  rw [e, show (256 : Int) = ((256 : Nat) : Int) from rfl, ← Int.natCast_emod, Nat.mod_eq_of_lt h]
theorem bits_put' (S : List Bool) (i : Nat) (hi : i < S.length) : bits .or .u8 (byteOf S (i / 8) : Int) (2 ^ (i % 8) % 256) = (byteOf (S.set i true) (i / 8) : Int) := by
  rw [pow_u8, bits_put S i hi]
theorem bits_drop' (S : List Bool) (i : Nat) (hi : i < S.length) : bits .andNot .u8 (byteOf S (i / 8) : Int) (2 ^ (i % 8) % 256) = (byteOf (S.set i false) (i / 8) : Int) := by
  rw [pow_u8, bits_drop S i hi]
theorem tr_replicate (n i : Nat) : tr (List.replicate n false) i = false := by
  unfold tr; rw [List.getD_eq_getElem?_getD, List.getElem?_replicate]; split <;> rfl
theorem byteOf_replicate (n j : Nat) : byteOf (List.replicate n false) j = 0 := by simp [byteOf, tr_replicate, by8, b8]
theorem bytesOf_replicate (n : Nat) : bytesOf (List.replicate n false) = List.replicate (need n) 0 := by
  apply List.ext_getElem
  · simp [bytesOf]
  · intro i h1 h2; simp [bytesOf, byteOf_replicate]
theorem bytesOf_set (S : List Bool) (i : Nat) (x : Bool) (hi : i < S.length) : bytesOf (S.set i x) = (bytesOf S).set (i / 8) (byteOf (S.set i x) (i / 8) : Int) := by
  apply List.ext_getElem?
  intro j
  rw [List.getElem?_set]
  simp only [bytesOf, List.getElem?_map, List.length_map, List.length_range, List.length_set]
  by_cases hj : i / 8 = j
  · subst hj
    have : i / 8 < need S.length := by unfold need; omega
    simp [this]
  · rw [if_neg hj]
    by_cases hl : j < need S.length
    · simp [List.getElem?_range hl, byteOf_set_other S i x j (fun e => hj e.symm)]
    · simp [List.getElem?_eq_none (show (List.range (need S.length)).length ≤ j by simp; omega)]
theorem set_tr_self (S : List Bool) (i : Nat) (x : Bool) (h : tr S i = x) (hi : i < S.length) : S.set i x = S := by
  apply ext_tr (by simp)
  intro j hj
  rw [tr_set S i x hi]
  split
  · subst_vars; rfl
  · rfl

/-- Truth i of a row, for any whole number i. -/
def trI (S : List Bool) (i : Int) : Bool := decide (0 ≤ i) && tr S i.toNat
/-- Is i a number of a row? -/
def inI (S : List Bool) (i : Int) : Bool := decide (0 ≤ i) && decide (i < S.length)
/-- A row with truth i set to x; the row, if i is no number of it. -/
def putI (S : List Bool) (i : Int) (x : Bool) : List Bool := if inI S i = true then S.set i.toNat x else S
theorem trI_nat (S : List Bool) (i : Nat) : trI S (i : Int) = tr S i := by simp [trI]
theorem inI_nat (S : List Bool) (i : Nat) (h : i < S.length) : inI S (i : Int) = true := by simp [inI, h]
theorem inI_out (S : List Bool) (i : Int) (h : i < 0 ∨ S.length ≤ i) : inI S i = false := by
  unfold inI; rcases h with h | h
  · simp; omega
  · simp; omega
theorem trI_out (S : List Bool) (i : Int) (h : i < 0 ∨ S.length ≤ i) : trI S i = false := by
  unfold trI; rcases h with h | h
  · simp; omega
  · rw [tr_out _ _ (by omega)]; simp
theorem putI_nat (S : List Bool) (i : Nat) (x : Bool) (h : i < S.length) : putI S (i : Int) x = S.set i x := by simp [putI, inI_nat S i h]
theorem putI_out (S : List Bool) (i : Int) (x : Bool) (h : i < 0 ∨ S.length ≤ i) : putI S i x = S := by simp [putI, inI_out S i h]
theorem putI_length (S : List Bool) (i : Int) (x : Bool) : (putI S i x).length = S.length := by unfold putI; split <;> simp
theorem int_cases (S : List Bool) (i : Int) : (i < 0 ∨ (S.length : Int) ≤ i) ∨ ∃ n : Nat, i = n ∧ n < S.length := by
  by_cases h : i < 0 ∨ (S.length : Int) ≤ i
  · exact .inl h
  · exact .inr ⟨i.toNat, by omega, by omega⟩

theorem bytesOf_get (S : List Bool) (j : Nat) (h : j < need S.length) : (bytesOf S)[j]? = some (byteOf S j : Int) := by simp [bytesOf, List.getElem?_range h]
theorem bytesOf_inj {S S' : List Bool} (hl : S.length = S'.length) (h : bytesOf S = bytesOf S') : S = S' := by
  refine ext_tr hl fun i hi => ?_
  have hj : i / 8 < need S.length := by unfold need; omega
  have h1 := bytesOf_get S (i / 8) hj
  have h2 := bytesOf_get S' (i / 8) (by rw [← hl]; exact hj)
  rw [h, h2] at h1
  have h3 : byteOf S' (i / 8) = byteOf S (i / 8) := by injection h1 with h1; omega
  rw [← byteOf_bit S i, ← byteOf_bit S' i, h3]
theorem libBytes_inj : ∀ {xs ys : List Int}, (∀ x ∈ xs, 0 ≤ x ∧ x < 256) → (∀ x ∈ ys, 0 ≤ x ∧ x < 256) → xs.map (fun n : Int => UInt8.ofNat n.toNat) = ys.map (fun n : Int => UInt8.ofNat n.toNat) → xs = ys
  | [], [], _, _, _ => rfl
  | [], _ :: _, _, _, h => by simp at h
  | _ :: _, [], _, _, h => by simp at h
  | x :: xs, y :: ys, h1, h2, h => by
    simp only [List.map_cons, List.cons.injEq] at h
    have a := h1 x (by simp)
    have b := h2 y (by simp)
    have e : x = y := by
      have := congrArg UInt8.toNat h.1
      simp only [UInt8.toNat_ofNat'] at this
      omega
    rw [e, libBytes_inj (fun z hz => h1 z (by simp [hz])) (fun z hz => h2 z (by simp [hz])) h.2]
theorem bytesOf_range (S : List Bool) : ∀ x ∈ bytesOf S, 0 ≤ x ∧ x < 256 := by
  intro x hx
  simp only [bytesOf, List.mem_map] at hx
  obtain ⟨j, _, rfl⟩ := hx
  have := byteOf_lt S j
  omega
/-- The least number from i on whose truth is x. -/
def findFrom (S : List Bool) (i : Nat) (x : Bool) : Int :=
  if h : i < S.length then (if tr S i = x then (i : Int) else findFrom S (i + 1) x) else -1
termination_by S.length - i
theorem findFrom_out (S : List Bool) (i : Nat) (x : Bool) (h : S.length ≤ i) : findFrom S i x = -1 := by
  rw [findFrom]; simp [show ¬ i < S.length by omega]
theorem findFrom_hit (S : List Bool) (i : Nat) (x : Bool) (h : i < S.length) (hx : tr S i = x) : findFrom S i x = i := by
  rw [findFrom]; simp [h, hx]
theorem findFrom_miss (S : List Bool) (i : Nat) (x : Bool) (h : i < S.length) (hx : tr S i ≠ x) : findFrom S i x = findFrom S (i + 1) x := by
  rw [findFrom]; simp [h, hx]
theorem findFrom_lt (S : List Bool) (x : Bool) (d : Nat) : ∀ i, S.length - i = d → findFrom S i x = -1 ∨ ∃ k : Nat, findFrom S i x = k ∧ i ≤ k ∧ k < S.length ∧ tr S k = x ∧ ∀ j, i ≤ j → j < k → tr S j ≠ x := by
  induction d with
  | zero => intro i h; exact .inl (findFrom_out S i x (by omega))
  | succ d ih =>
    intro i h
    by_cases hx : tr S i = x
    · exact .inr ⟨i, findFrom_hit S i x (by omega) hx, Nat.le_refl _, by omega, hx, fun j h1 h2 => by omega⟩
    · rw [findFrom_miss S i x (by omega) hx]
      rcases ih (i + 1) (by omega) with h1 | ⟨k, h1, h2, h3, h4, h5⟩
      · exact .inl h1
      · refine .inr ⟨k, h1, by omega, h3, h4, fun j j1 j2 => ?_⟩
        by_cases e : j = i
        · rw [e]; exact hx
        · exact h5 j (by omega) j2
theorem findFrom_none (S : List Bool) (x : Bool) (d : Nat) : ∀ i, S.length - i = d → findFrom S i x = -1 → ∀ j, i ≤ j → j < S.length → tr S j ≠ x := by
  induction d with
  | zero => intro i h _ j h1 h2; omega
  | succ d ih =>
    intro i h h0 j h1 h2
    by_cases hx : tr S i = x
    · rw [findFrom_hit S i x (by omega) hx] at h0; omega
    · rw [findFrom_miss S i x (by omega) hx] at h0
      by_cases e : j = i
      · rw [e]; exact hx
      · exact ih (i + 1) (by omega) h0 j (by omega) h2
/-- The numbers of a row from i on, rising. -/
def numsFrom (S : List Bool) (i : Nat) : List Nat :=
  if h : i < S.length then (if tr S i = true then i :: numsFrom S (i + 1) else numsFrom S (i + 1)) else []
termination_by S.length - i
theorem numsFrom_out (S : List Bool) (i : Nat) (h : S.length ≤ i) : numsFrom S i = [] := by
  rw [numsFrom]; simp [show ¬ i < S.length by omega]
theorem numsFrom_hit (S : List Bool) (i : Nat) (h : i < S.length) (hx : tr S i = true) : numsFrom S i = i :: numsFrom S (i + 1) := by
  rw [numsFrom]; simp [h, hx]
theorem numsFrom_miss (S : List Bool) (i : Nat) (h : i < S.length) (hx : tr S i = false) : numsFrom S i = numsFrom S (i + 1) := by
  rw [numsFrom]; simp [h, hx]
/-- What comes next, and what is left behind it. -/
theorem numsFrom_next (S : List Bool) (d : Nat) : ∀ i, S.length - i = d → (findFrom S i true = -1 ∧ numsFrom S i = []) ∨ ∃ k : Nat, findFrom S i true = k ∧ i ≤ k ∧ k < S.length ∧ numsFrom S i = k :: numsFrom S (k + 1) := by
  induction d with
  | zero => intro i h; exact .inl ⟨findFrom_out S i true (by omega), numsFrom_out S i (by omega)⟩
  | succ d ih =>
    intro i h
    cases hx : tr S i with
    | true => exact .inr ⟨i, findFrom_hit S i true (by omega) hx, Nat.le_refl _, by omega, numsFrom_hit S i (by omega) hx⟩
    | false =>
      rw [findFrom_miss S i true (by omega) (by simp [hx]), numsFrom_miss S i (by omega) hx]
      rcases ih (i + 1) (by omega) with h1 | ⟨k, h1, h2, h3, h4⟩
      · exact .inl h1
      · exact .inr ⟨k, h1, by omega, h3, h4⟩
theorem mem_numsFrom (S : List Bool) (d : Nat) : ∀ i, S.length - i = d → ∀ k, k ∈ numsFrom S i ↔ i ≤ k ∧ k < S.length ∧ tr S k = true := by
  induction d with
  | zero => intro i h k; rw [numsFrom_out S i (by omega)]; simp; omega
  | succ d ih =>
    intro i h k
    cases hx : tr S i with
    | true =>
      rw [numsFrom_hit S i (by omega) hx, List.mem_cons, ih (i + 1) (by omega)]
      constructor
      · rintro (rfl | ⟨h1, h2, h3⟩)
        · exact ⟨Nat.le_refl _, by omega, hx⟩
        · exact ⟨by omega, h2, h3⟩
      · rintro ⟨h1, h2, h3⟩
        by_cases e : k = i
        · exact .inl e
        · exact .inr ⟨by omega, h2, h3⟩
    | false =>
      rw [numsFrom_miss S i (by omega) hx, ih (i + 1) (by omega)]
      constructor
      · rintro ⟨h1, h2, h3⟩; exact ⟨by omega, h2, h3⟩
      · rintro ⟨h1, h2, h3⟩
        refine ⟨?_, h2, h3⟩
        by_cases e : k = i
        · subst e; rw [hx] at h3; cases h3
        · omega
theorem numsFrom_len (S : List Bool) (d : Nat) : ∀ i, S.length - i = d → (numsFrom S i).length ≤ S.length - i := by
  induction d with
  | zero => intro i h; rw [numsFrom_out S i (by omega)]; simp
  | succ d ih =>
    intro i h
    have := ih (i + 1) (by omega)
    cases hx : tr S i with
    | true => rw [numsFrom_hit S i (by omega) hx]; simp; omega
    | false => rw [numsFrom_miss S i (by omega) hx]; omega
theorem numsFrom_length_le (S : List Bool) : (numsFrom S 0).length ≤ S.length := by have := numsFrom_len S _ 0 rfl; omega
/-- Bit i of a row of bytes. -/
def bitOf (xs : List Int) (i : Nat) : Bool := ((xs.getD (i / 8) 0).toNat / 2 ^ (i % 8) &&& 1) == 1
/-- The truths that bytes tell, n of them. -/
def truths (n : Nat) (xs : List Int) : List Bool := (List.range n).map (bitOf xs)
theorem truths_length (n : Nat) (xs : List Int) : (truths n xs).length = n := by simp [truths]
theorem tr_truths (n : Nat) (xs : List Int) (i : Nat) (h : i < n) : tr (truths n xs) i = bitOf xs i := by
  unfold tr truths; rw [List.getD_eq_getElem?_getD, List.getElem?_map, List.getElem?_range h]; rfl
/-- Is a bit from n on set? -/
def stray (n : Nat) (xs : List Int) : Bool := (List.range (8 * xs.length)).any fun i => decide (n ≤ i) && bitOf xs i
theorem stray_of {n : Nat} {xs : List Int} {i : Nat} (h0 : n ≤ i) (h : i < 8 * xs.length) (hb : bitOf xs i = true) : stray n xs = true := by
  unfold stray; rw [List.any_eq_true]; exact ⟨i, by simpa using h, by simp [h0, hb]⟩
theorem stray_none {n : Nat} {xs : List Int} (h : ∀ i, n ≤ i → i < 8 * xs.length → bitOf xs i = false) : stray n xs = false := by
  unfold stray; rw [List.any_eq_false]
  intro i hi
  have hi' : i < 8 * xs.length := by simpa using hi
  by_cases hn : n ≤ i
  · simp [hn, h i hn hi']
  · simp [hn]
theorem stray_false {n : Nat} {xs : List Int} (h : stray n xs = false) (i : Nat) (h0 : n ≤ i) (h1 : i < 8 * xs.length) : bitOf xs i = false := by
  cases hb : bitOf xs i with
  | false => rfl
  | true => rw [stray_of h0 h1 hb] at h; cases h
theorem bits_bit (x : Nat) (hx : x < 256) (k : Nat) : (bits .and .u8 ((x : Int) / 2 ^ k) 1 == 1) = (x / 2 ^ k &&& 1 == 1) := by
  have e : ((x : Int) / 2 ^ k) = ((x / 2 ^ k : Nat) : Int) := by rw [Int.natCast_ediv, Int.natCast_pow]; rfl
  have hle : x / 2 ^ k ≤ x := Nat.div_le_self _ _
  have h1 := u8_and_nat (x / 2 ^ k) 1 (by omega) (by omega)
  rw [e, show (bits .and .u8 ((x / 2 ^ k : Nat) : Int) 1) = ((x / 2 ^ k &&& 1 : Nat) : Int) from h1]
  generalize (x / 2 ^ k &&& 1) = y
  rw [Bool.eq_iff_iff, beq_iff_eq, beq_iff_eq]; omega
theorem by8_of : ∀ x : Fin 256, by8 (x.val / 2 ^ 0 &&& 1 == 1) (x.val / 2 ^ 1 &&& 1 == 1) (x.val / 2 ^ 2 &&& 1 == 1) (x.val / 2 ^ 3 &&& 1 == 1) (x.val / 2 ^ 4 &&& 1 == 1) (x.val / 2 ^ 5 &&& 1 == 1) (x.val / 2 ^ 6 &&& 1 == 1) (x.val / 2 ^ 7 &&& 1 == 1) = x.val := by decide +kernel
theorem bytesOf_truths {n : Nat} {xs : List Int} (hl : xs.length = need n) (hr : ∀ x ∈ xs, 0 ≤ x ∧ x < 256) (hs : stray n xs = false) : bytesOf (truths n xs) = xs := by
  have hall : ∀ i, i < 8 * xs.length → tr (truths n xs) i = bitOf xs i := by
    intro i hi
    by_cases h : i < n
    · exact tr_truths n xs i h
    · rw [tr_out _ _ (by rw [truths_length]; omega), stray_false hs i (by omega) hi]
  apply List.ext_getElem
  · rw [bytesOf_length, truths_length, hl]
  · intro j h1 h2
    have h3 : bytesOf (truths n xs) = (List.range (need n)).map fun j => (byteOf (truths n xs) j : Int) := by unfold bytesOf; rw [truths_length]
    simp only [h3, List.getElem_map, List.getElem_range]
    have hx := hr xs[j] (List.getElem_mem h2)
    have hb : ∀ k, k < 8 → tr (truths n xs) (8 * j + k) = (xs[j].toNat / 2 ^ k &&& 1 == 1) := by
      intro k hk
      rw [hall _ (by omega)]
      unfold bitOf
      rw [show (8 * j + k) / 8 = j by omega, show (8 * j + k) % 8 = k by omega, List.getD_eq_getElem?_getD, List.getElem?_eq_getElem h2]; rfl
    have h8 := by8_of ⟨xs[j].toNat, by omega⟩
    have h0 := hb 0 (by omega)
    unfold byteOf
    rw [show 8 * j = 8 * j + 0 by omega, h0, show 8 * j + 0 = 8 * j by omega, hb 1 (by omega), hb 2 (by omega), hb 3 (by omega), hb 4 (by omega), hb 5 (by omega), hb 6 (by omega), hb 7 (by omega)]
    rw [show by8 _ _ _ _ _ _ _ _ = xs[j].toNat from h8]
    omega
theorem truths_bytesOf (S : List Bool) : truths S.length (bytesOf S) = S ∧ stray S.length (bytesOf S) = false := by
  have hb : ∀ i, i < 8 * need S.length → bitOf (bytesOf S) i = tr S i := by
    intro i hi
    unfold bitOf
    rw [List.getD_eq_getElem?_getD, bytesOf_get S (i / 8) (by omega)]
    exact byteOf_bit S i
  constructor
  · refine ext_tr (truths_length _ _) fun i hi => ?_
    rw [truths_length] at hi
    rw [tr_truths _ _ i hi, hb i (by unfold need; omega)]
  · refine stray_none fun i h0 h1 => ?_
    rw [bytesOf_length] at h1
    rw [hb i h1, tr_out S i h0]
/-- The sum of the first m bits of byte j. -/
def part (S : List Bool) (j : Nat) : Nat → Nat
  | 0 => 0
  | m + 1 => part S j m + b8 (tr S (8 * j + m)) * 2 ^ m
theorem part_8 (S : List Bool) (j : Nat) : part S j 8 = byteOf S j := by
  simp only [part, byteOf, by8, Nat.add_zero]; omega
theorem b8_le (b : Bool) : b8 b ≤ 1 := by cases b <;> decide
theorem part_lt (S : List Bool) (j m : Nat) : part S j m < 2 ^ m := by
  induction m with
  | zero => simp [part]
  | succ m ih =>
    have h := b8_le (tr S (8 * j + m))
    have : b8 (tr S (8 * j + m)) * 2 ^ m ≤ 1 * 2 ^ m := Nat.mul_le_mul_right _ h
    simp only [part, Nat.pow_succ]; omega
theorem part_more (S : List Bool) (j m : Nat) (h : S.length ≤ 8 * j + m) : ∀ d, part S j (m + d) = part S j m := by
  intro d
  induction d with
  | zero => rfl
  | succ d ih => rw [← Nat.add_assoc, part, ih, tr_out S _ (by omega)]; simp [b8]
theorem part_end (S : List Bool) (j m : Nat) (hm : m ≤ 8) (h : S.length ≤ 8 * j + m) : part S j m = byteOf S j := by
  rw [← part_8, show (8 : Nat) = m + (8 - m) by omega, part_more S j m h]
theorem bytesOf_take_succ (S : List Bool) (k : Nat) (h : k < need S.length) : (bytesOf S).take (k + 1) = (bytesOf S).take k ++ [(byteOf S k : Int)] := by
  have h2 : k < (bytesOf S).length := by rw [bytesOf_length]; exact h
  rw [List.take_succ_eq_append_getElem h2]
  congr 2
  have := bytesOf_get S k h
  rw [List.getElem?_eq_getElem h2] at this
  injection this
/-- The runs of a row from i on, rising: the first number of each, and how many. -/
def runEnd (S : List Bool) (k : Nat) : Nat := if findFrom S k false < 0 then S.length else (findFrom S k false).toNat
theorem runEnd_spec (S : List Bool) (k : Nat) (hk : k < S.length) (hx : tr S k = true) : k < runEnd S k ∧ runEnd S k ≤ S.length ∧ (∀ j, k ≤ j → j < runEnd S k → tr S j = true) ∧ tr S (runEnd S k) = false := by
  unfold runEnd
  rcases findFrom_lt S false _ k rfl with h1 | ⟨m, h1, h2, h3, h4, h5⟩
  · have hn := findFrom_none S false _ k rfl h1
    rw [h1, if_pos (by decide)]
    exact ⟨hk, Nat.le_refl _, fun j j1 j2 => by simpa using hn j j1 j2, tr_out S _ (Nat.le_refl _)⟩
  · rw [h1, if_neg (by omega)]
    have e : ((m : Int)).toNat = m := by omega
    rw [e]
    refine ⟨?_, by omega, fun j j1 j2 => by simpa using h5 j j1 j2, h4⟩
    rcases Nat.lt_or_eq_of_le h2 with h6 | h6
    · exact h6
    · subst h6; rw [hx] at h4; cases h4
/-- The run that begins at the next number from i on. -/
theorem findFrom_tr (S : List Bool) (i k : Nat) (h : findFrom S i true = k) : k < S.length ∧ tr S k = true ∧ i ≤ k := by
  rcases findFrom_lt S true _ i rfl with h1 | ⟨m, h1, h2, h3, h4, _⟩
  · rw [h1] at h; omega
  · rw [h1] at h; have : m = k := by omega
    subst this; exact ⟨h3, h4, h2⟩
def runsFrom (S : List Bool) (i : Nat) : List (Nat × Nat) :=
  match h : findFrom S i true with
  | .negSucc _ => []
  | .ofNat k => (k, runEnd S k - k) :: runsFrom S (runEnd S k)
termination_by S.length - i
decreasing_by
  have h1 := findFrom_tr S i k h
  have h2 := runEnd_spec S k h1.1 h1.2.1
  omega
theorem runsFrom_none (S : List Bool) (i : Nat) (h : findFrom S i true = -1) : runsFrom S i = [] := by
  rw [runsFrom]; split
  · rfl
  · rename_i k hk; rw [h] at hk; cases hk
theorem runsFrom_next (S : List Bool) (i k : Nat) (h : findFrom S i true = k) : runsFrom S i = (k, runEnd S k - k) :: runsFrom S (runEnd S k) := by
  rw [runsFrom]; split
  · rename_i k' hk; rw [h] at hk; cases hk
  · rename_i k' hk; rw [h] at hk
    have : k = k' := by injection hk
    subst this; rfl
/-- How many truths. -/
def countT (S : List Bool) : Nat := (numsFrom S 0).length
end Go.Proofs.Ytejpcgoblgaieaa
