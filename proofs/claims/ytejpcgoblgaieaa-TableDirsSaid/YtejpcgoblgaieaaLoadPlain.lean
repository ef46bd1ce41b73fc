/-
  What loading a leaf makes of a row of numbers: plain lemmas.
-/
import Derived.Test.YtejpcgoblgaieaaTable7
import Derived.Test.YtejpcgoblgaieaaRef07
set_option linter.unusedVariables false
set_option linter.unusedSimpArgs false
namespace Go.Proofs.Ytejpcgoblgaieaa
/-- L, laid into X from place o on. -/
def putL : List Int → Nat → List Int → List Int
  | X, _, [] => X
  | X, o, x :: L => putL (X.set o x) (o + 1) L
/-- The first k numbers of some bytes, laid into Z from place o on. -/
def setN (Z : List Int) (o : Nat) (xs : List Int) : Nat → List Int
  | 0 => Z
  | k + 1 => (setN Z o xs k).set (o + k) (val4 xs (4 * k))
theorem putL_length : ∀ (L X : List Int) (o : Nat), (putL X o L).length = X.length
  | [], _, _ => rfl
  | x :: L, X, o => by rw [putL, putL_length L]; simp
theorem setN_length (Z : List Int) (o : Nat) (xs : List Int) : ∀ k, (setN Z o xs k).length = Z.length
  | 0 => rfl
  | k + 1 => by rw [setN, List.length_set, setN_length Z o xs k]
theorem getD_set (X : List Int) (i j : Nat) (x : Int) : (X.set i x).getD j 0 = if i = j ∧ j < X.length then x else X.getD j 0 := by
  rw [List.getD_eq_getElem?_getD, List.getD_eq_getElem?_getD, List.getElem?_set]
  by_cases h : i = j
  · subst h
    by_cases hl : i < X.length
    · simp [hl]
    · simp [hl]
  · simp [h]
theorem putL_getD : ∀ (L X : List Int) (o j : Nat), (putL X o L).getD j 0 = if o ≤ j ∧ j < o + L.length ∧ j < X.length then L.getD (j - o) 0 else X.getD j 0
  | [], X, o, j => by simp only [putL, List.length_nil]; rw [if_neg (by omega)]
  | x :: L, X, o, j => by
    rw [putL, putL_getD L, getD_set, List.length_set, List.length_cons]
    by_cases h : o + 1 ≤ j ∧ j < o + 1 + L.length ∧ j < X.length
    · rw [if_pos h, if_pos (by omega), show j - o = (j - (o + 1)) + 1 by omega]; rfl
    · rw [if_neg h]
      by_cases h2 : o = j ∧ j < X.length
      · rw [if_pos h2, if_pos (by omega), show j - o = 0 by omega]; rfl
      · rw [if_neg h2, if_neg (by omega)]
theorem setN_getD (Z : List Int) (o : Nat) (xs : List Int) (j : Nat) : ∀ k, (setN Z o xs k).getD j 0 = if o ≤ j ∧ j < o + k ∧ j < Z.length then val4 xs (4 * (j - o)) else Z.getD j 0
  | 0 => by rw [setN, if_neg (by omega)]
  | k + 1 => by
    rw [setN, getD_set, setN_length, setN_getD Z o xs j k]
    by_cases h : o + k = j ∧ j < Z.length
    · rw [if_pos h, if_pos (by omega), show j - o = k by omega]
    · rw [if_neg h]
      by_cases h2 : o ≤ j ∧ j < o + k ∧ j < Z.length
      · rw [if_pos h2, if_pos (by omega)]
      · rw [if_neg h2, if_neg (by omega)]
theorem ext_getD {X Y : List Int} (hl : X.length = Y.length) (h : ∀ j, j < X.length → X.getD j 0 = Y.getD j 0) : X = Y := by
  apply List.ext_getElem hl
  intro j h1 h2
  have := h j h1
  simpa [List.getD_eq_getElem?_getD, List.getElem?_eq_getElem h1, List.getElem?_eq_getElem h2] using this
theorem putL_full {X L : List Int} (h : L.length = X.length) : putL X 0 L = L := by
  refine ext_getD ((putL_length _ _ _).trans h.symm) (fun j hj => ?_)
  rw [putL_length] at hj
  rw [putL_getD, if_pos (by omega)]; rfl
theorem zeros_getD (n j : Nat) : (List.replicate n (0 : Int)).getD j 0 = 0 := by
  rw [List.getD_eq_getElem?_getD, List.getElem?_replicate]; split <;> rfl
theorem put_setN {X : List Int} (hl : X.length = 512) (i : Nat) (hi : i < 4) (xs : List Int) : putL X (i * 128) (setN (List.replicate 128 0) 0 xs 128) = setN X (i * 128) xs 128 := by
  refine ext_getD ((putL_length _ _ _).trans (setN_length _ _ _ _).symm) (fun j hj => ?_)
  rw [putL_length] at hj
  rw [putL_getD, setN_getD X, setN_length, List.length_replicate]
  by_cases h : i * 128 ≤ j ∧ j < i * 128 + 128 ∧ j < X.length
  · rw [if_pos h, if_pos h, setN_getD, List.length_replicate, if_pos (by omega), Nat.sub_zero]
  · rw [if_neg h, if_neg h]
/-- Cells, laid into a block. -/
theorem heap_setCells {b : Nat} {t : TypeId} {fz : Nat × Nat} : ∀ (L : List Int) (o : Nat) (w : World) (X : List Int), w.heap[b]? = some (.cells (nums X) t fz) → (w.setCells b o (numL L)).heap[b]? = some (.cells (nums (putL X o L)) t fz)
  | [], o, w, X, h => h
  | x :: L, o, w, X, h => by
    show ((w.setCell ⟨b, o, none⟩ (.int .i64 x)).setCells b (o + 1) (numL L)).heap[b]? = _
    rw [putL]
    refine heap_setCells L (o + 1) _ (X.set o x) ?_
    rw [setCell_at h, nums_set]
theorem ArrAt.stored {w : World} {b : Nat} {X Y : List Int} (h : ArrAt w b X) (hY : Y.length = 512) : ArrAt (w.setCells b 0 (numL Y)) b Y :=
  ⟨by have := heap_setCells Y 0 w X h.hp; rwa [putL_full (by rw [hY, h.len])] at this, hY⟩
theorem TabAt.put {w : World} {p : Nat} {X : List Int} (h : TabAt w p X) (o : Nat) (L : List Int) : TabAt (w.setCells p o (numL L)) p (putL X o L) :=
  ⟨heap_setCells L o w X h.hp, (putL_length _ _ _).trans h.len⟩
/-- May it be told? -/
def okV (x : Int) : Bool := (x == 0) || okP x
def okN (xs : List Int) (k : Nat) : Bool := (List.range k).all fun j => okV (val4 xs (4 * j))
theorem okN_succ (xs : List Int) (k : Nat) : okN xs (k + 1) = (okN xs k && okV (val4 xs (4 * k))) := by simp [okN, List.range_succ]
theorem okN_stop {xs : List Int} {k n : Nat} (hk : k < n) (h : okV (val4 xs (4 * k)) = false) : okN xs n = false := by
  rw [Bool.eq_false_iff]
  intro hh
  have := List.all_eq_true.1 hh k (by simpa using hk)
  rw [h] at this; cases this
/-- Why a leaf isn't loaded. -/
def loadE (i : Int) (xs : List Int) : Int := if i < 0 ∨ 3 < i then 7 else if xs.length < 512 then 3 else if 512 < xs.length then 2 else if okN xs 128 = true then 0 else 4
def loadX (X : List Int) (i : Int) (xs : List Int) : List Int := if loadE i xs = 0 then setN X (i.toNat * 128) xs 128 else X
theorem loadX_length (X : List Int) (i : Int) (xs : List Int) : (loadX X i xs).length = X.length := by unfold loadX; split; exact setN_length _ _ _ _; rfl
theorem told_setN {X : List Int} (hX : Told X) (o : Nat) (xs : List Int) : ∀ k, okN xs k = true → Told (setN X o xs k)
  | 0, _ => hX
  | k + 1, h => by
    rw [okN_succ, Bool.and_eq_true] at h
    refine (told_setN hX o xs k h.1).set _ _ ?_
    have := h.2
    simp [okV, okP] at this
    rcases this with h1 | h1
    · exact .inl h1
    · exact .inr h1
theorem told_load {X : List Int} (hX : Told X) (i : Int) (xs : List Int) : Told (loadX X i xs) := by
  unfold loadX
  split
  · next h =>
    refine told_setN hX _ _ _ ?_
    unfold loadE at h
    by_cases h1 : i < 0 ∨ 3 < i
    · rw [if_pos h1] at h; cases h
    · rw [if_neg h1] at h
      by_cases h2 : xs.length < 512
      · rw [if_pos h2] at h; cases h
      · rw [if_neg h2] at h
        by_cases h3 : 512 < xs.length
        · rw [if_pos h3] at h; cases h
        · rw [if_neg h3] at h
          by_cases h4 : okN xs 128 = true
          · exact h4
          · rw [if_neg h4] at h; cases h
  · exact hX
end Go.Proofs.Ytejpcgoblgaieaa
