/-
  A table that is made of another one's leaves, one behind the other: plain lemmas.
-/
import Derived.Test.YtejpcgoblgaieaaTable9
import Derived.Test.YtejpcgoblgaieaaTable10
set_option linter.unusedVariables false
set_option linter.unusedSimpArgs false
namespace Go.Proofs.Ytejpcgoblgaieaa
/-- The first k leaves of Y, the others of X. -/
def mix (X Y : List Int) (k : Nat) : List Int := Y.take (k * 128) ++ X.drop (k * 128)
theorem mix_length {X Y : List Int} (hl : X.length = 512) (hm : Y.length = 512) (k : Nat) (hk : k ≤ 4) : (mix X Y k).length = 512 := by
  rw [mix, List.length_append, List.length_take, List.length_drop, hl, hm]; omega
theorem mix_getD {X Y : List Int} (hm : Y.length = 512) (k : Nat) (hk : k ≤ 4) (j : Nat) : (mix X Y k).getD j 0 = if j < k * 128 then Y.getD j 0 else X.getD j 0 := by
  rw [mix, List.getD_eq_getElem?_getD, List.getElem?_append, List.length_take, hm]
  by_cases h : j < k * 128
  · rw [if_pos (by omega), if_pos h, List.getElem?_take, if_pos h, List.getD_eq_getElem?_getD]
  · rw [if_neg (by omega), if_neg h, List.getElem?_drop, List.getD_eq_getElem?_getD, show k * 128 + (j - min (k * 128) 512) = j by omega]
theorem mix_0 (X Y : List Int) : mix X Y 0 = X := by simp [mix]
theorem mix_4 {X Y : List Int} (hl : X.length = 512) (hm : Y.length = 512) : mix X Y 4 = Y := by
  refine ext_getD ((mix_length hl hm 4 (by omega)).trans hm.symm) (fun j hj => ?_)
  rw [mix_length hl hm 4 (by omega)] at hj
  rw [mix_getD hm 4 (by omega), if_pos (by omega)]
theorem told_getD {X : List Int} (h : ∀ j, X.getD j 0 = 0 ∨ (2 ≤ X.getD j 0 ∧ X.getD j 0 < 512)) : Told X := by
  intro x hx
  obtain ⟨j, hj, rfl⟩ := List.mem_iff_getElem.1 hx
  have := h j
  rwa [List.getD_eq_getElem?_getD, List.getElem?_eq_getElem hj] at this
theorem told_mix {X Y : List Int} (hX : Told X) (hY : Told Y) (hm : Y.length = 512) (k : Nat) (hk : k ≤ 4) : Told (mix X Y k) := by
  refine told_getD (fun j => ?_)
  rw [mix_getD hm k hk]
  split
  · exact hY.at j
  · exact hX.at j
theorem okN_leafB {Y : List Int} (hY : Told Y) (i : Nat) : okN (leafB Y i 128) 128 = true := by
  rw [okN, List.all_eq_true]
  intro j hj
  rw [List.mem_range] at hj
  rw [val4_leafB hY i j 128 hj]
  have := hY.at (i * 128 + j)
  simp [okV, okP]
  rcases this with h | h
  · exact .inl h
  · exact .inr h
theorem load_leaf {Y : List Int} (hY : Told Y) (k : Nat) (hk : k < 4) : loadE k (leafB Y k 128) = 0 := by
  unfold loadE
  rw [if_neg (by omega), leafB_length, if_neg (by omega), if_neg (by omega), if_pos (okN_leafB hY k)]
theorem load_mix {X Y : List Int} (hY : Told Y) (hl : X.length = 512) (hm : Y.length = 512) (k : Nat) (hk : k < 4) : loadX (mix X Y k) k (leafB Y k 128) = mix X Y (k + 1) := by
  unfold loadX
  rw [if_pos (load_leaf hY k hk), Int.toNat_natCast]
  refine ext_getD ((setN_length _ _ _ _).trans ((mix_length hl hm k (by omega)).trans (mix_length hl hm (k + 1) (by omega)).symm)) (fun j hj => ?_)
  rw [setN_length, mix_length hl hm k (by omega)] at hj
  rw [setN_getD, mix_length hl hm k (by omega), mix_getD hm k (by omega), mix_getD hm (k + 1) (by omega)]
  by_cases h : k * 128 ≤ j ∧ j < k * 128 + 128 ∧ j < 512
  · rw [if_pos h, if_pos (by omega), val4_leafB hY k (j - k * 128) 128 (by omega), show k * 128 + (j - k * 128) = j by omega]
  · rw [if_neg h]
    by_cases h2 : j < k * 128
    · rw [if_pos h2, if_pos (by omega)]
    · rw [if_neg h2, if_neg (by omega)]
theorem mix_skip {X Y : List Int} (hl : X.length = 512) (hm : Y.length = 512) (k : Nat) (hk : k < 4) (h : leafN X k = leafN Y k) : mix X Y (k + 1) = mix X Y k := by
  refine ext_getD ((mix_length hl hm (k + 1) (by omega)).trans (mix_length hl hm k (by omega)).symm) (fun j hj => ?_)
  rw [mix_length hl hm (k + 1) (by omega)] at hj
  rw [mix_getD hm k (by omega), mix_getD hm (k + 1) (by omega)]
  by_cases h1 : j < k * 128
  · rw [if_pos h1, if_pos (by omega)]
  · rw [if_neg h1]
    by_cases h2 : j < (k + 1) * 128
    · rw [if_pos h2]
      have e1 := leafN_getD X k (j - k * 128) (by omega)
      have e2 := leafN_getD Y k (j - k * 128) (by omega)
      rw [show k * 128 + (j - k * 128) = j by omega] at e1 e2
      rw [← e1, ← e2, h]
    · rw [if_neg h2]
theorem chg_none {d : Nat → Bool} (h : ∀ i, d i = false) : ∀ k, chg d k = []
  | 0 => rfl
  | k + 1 => by rw [chg_miss d k (h k), chg_none h k]
theorem differ_self (X : List Int) (i : Nat) : differ X X i = false := by simp [differ]
theorem chg_prefix (d : Nat → Bool) (i : Nat) : ∀ n, i ≤ n → ∃ r, chg d n = chg d i ++ r
  | 0, h => by obtain rfl : i = 0 := by omega
               exact ⟨[], by simp⟩
  | n + 1, h => by
    by_cases hi : i ≤ n
    · obtain ⟨r, hr⟩ := chg_prefix d i n hi
      cases hd : d n
      · exact ⟨r, by rw [chg_miss d n hd, hr]⟩
      · exact ⟨r ++ [.int .i64 n], by rw [chg_hit d n hd, hr, List.append_assoc]⟩
    · obtain rfl : i = n + 1 := by omega
      exact ⟨[], by simp⟩
theorem chg_at {d : Nat → Bool} {i n : Nat} (hi : i < n) (hd : d i = true) : (chg d n)[(chg d i).length]? = some (.int .i64 (i : Int)) := by
  obtain ⟨r, hr⟩ := chg_prefix d (i + 1) n (by omega)
  rw [chg_hit d i hd] at hr
  rw [hr, List.append_assoc, List.getElem?_append_right (Nat.le_refl _)]
  simp
theorem chg_lt {d : Nat → Bool} {i n : Nat} (hi : i < n) (hd : d i = true) : (chg d i).length < (chg d n).length := by
  obtain ⟨r, hr⟩ := chg_prefix d (i + 1) n (by omega)
  rw [chg_hit d i hd] at hr
  rw [hr]; simp
/-- A row of bytes of the call's own, as an argument. -/
theorem row_bytes {w : World} {v : Value} {xs : List Int} (h : Row w 5 v (u8s xs)) : ∃ A c, v = .slice A xs.length c ∧ xs.length ≤ c ∧ Lib.BytesIn w A xs.length xs := by
  obtain ⟨A, c, rfl, h1, h2, h3⟩ := h.form
  have hl : (u8s xs).length = xs.length := by simp [u8s]
  refine ⟨A, c, by rw [hl], by omega, fun h0 => ?_⟩
  obtain ⟨g, rfl, _, _, hc⟩ := h3 (by omega)
  refine ⟨g, 0, rfl, fun i hi => ?_⟩
  have := hc i (by omega)
  rw [Nat.zero_add, this]
  simp [u8s, List.getD_eq_getElem?_getD, List.getElem?_eq_getElem hi]
/-- A row of bytes, now and later, is that string. -/
def ConvAt (W : World) (v : Value) (ys : List Int) : Prop := ∀ W', Upd noB W W' → (convert 48 9 v).run Try.prog W' = .ok (.string (strOfNums ys)) W'
theorem conv_of {w : World} {v : Value} {ys : List Int} (h : Row w 5 v (u8s ys)) (h0 : 0 < ys.length) : ConvAt w v ys := by
  intro W hu
  have h2 : Row W 5 v (u8s ys) := h.upd0 hu
  rcases h2.2 with ⟨_, hl⟩ | ⟨g, cap, cur, rfl, _⟩
  · rw [show (u8s ys).length = ys.length by simp [u8s]] at hl; omega
  · exact row_string _ _ _ 5 Try.underlying48 Try.underlying5 Try.underlying9 h2
theorem ConvAt.upd {W W' : World} {v : Value} {ys : List Int} (h : ConvAt W v ys) (hu : Upd noB W W') : ConvAt W' v ys := fun W2 h2 => h W2 (hu.then0 h2)
theorem ConvAt.run {W : World} {v : Value} {ys : List Int} (h : ConvAt W v ys) : (convert 48 9 v).run Try.prog W = .ok (.string (strOfNums ys)) W := h W (Upd.refl _ _)
theorem strOf_eq {xs ys : List Int} (hx : Bytes xs) (hy : Bytes ys) : ((strOfNums xs).toList == (strOfNums ys).toList) = decide (xs = ys) := by
  rw [Bool.eq_iff_iff, beq_iff_eq, decide_eq_true_eq]
  constructor
  · intro hh
    refine libBytes_inj hx hy ?_
    simpa [strOfNums] using hh
  · rintro rfl; rfl
theorem leaf_strs {X Y : List Int} (hX : Told X) (hY : Told Y) (hl : X.length = 512) (hm : Y.length = 512) (k : Nat) (hk : k < 4) :
    ((strOfNums (leafB X k 128)).toList == (strOfNums (leafB Y k 128)).toList) = decide (leafN X k = leafN Y k) := by
  rw [strOf_eq (leafB_bytes hX k 128) (leafB_bytes hY k 128)]
  exact decide_eq_decide.2 ⟨leafB_inj hX hY hl hm k k hk hk, leafB_congr k k⟩
end Go.Proofs.Ytejpcgoblgaieaa
