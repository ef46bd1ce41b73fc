/-
  Package table: the bytes of a leaf: walked once.
-/
import Derived.Test.YtejpcgoblgaieaaTable3
import Derived.Test.YtejpcgoblgaieaaRef07
set_option linter.unusedVariables false
set_option linter.unusedSimpArgs false
namespace Go.Proofs.Ytejpcgoblgaieaa
open Go.RowKit
/-- The bytes of the first k pages of leaf i. -/
def leafB (X : List Int) (i k : Nat) : List Int := (List.range k).flatMap fun j => four (X.getD (i * 128 + j) 0).toNat
theorem leafB_succ (X : List Int) (i k : Nat) : leafB X i (k + 1) = leafB X i k ++ four (X.getD (i * 128 + k) 0).toNat := by
  simp [leafB, List.range_succ]
theorem leafB_length (X : List Int) (i k : Nat) : (leafB X i k).length = 4 * k := by
  induction k with
  | zero => rfl
  | succ k ih => rw [leafB_succ, List.length_append, ih]; simp [four]; omega
/-- A leaf's numbers. -/
def leafL (X : List Int) (i : Nat) : List Value := ((numL X).drop (i * 128)).take 128
theorem leafL_length (X : List Int) (i : Nat) (hl : X.length = 512) (hi : i < 4) : (leafL X i).length = 128 := by
  simp [leafL, numL_length, hl]; omega
theorem leafL_get (X : List Int) (i j : Nat) (hl : X.length = 512) (hi : i < 4) (hj : j < 128) : (leafL X i)[j]? = some (.int .i64 (X.getD (i * 128 + j) 0)) := by
  unfold leafL
  rw [List.getElem?_take, if_pos hj, List.getElem?_drop]
  simp [numL, List.getElem?_eq_getElem (show i * 128 + j < X.length by omega), List.getD_eq_getElem?_getD]
theorem TabAt.leaf {w : World} {p : Nat} {X : List Int} (h : TabAt w p X) (i : Nat) (hi : i < 4) : w.rangeAt p (i * 128) (leafL X i) := by
  intro j v hv
  have hj : j < 128 := by have := (List.getElem?_eq_some_iff.1 hv).1; rw [leafL_length X i h.len hi] at this; exact this
  rw [leafL_get X i j h.len hi hj] at hv
  rw [h.cell (i * 128 + j) (by omega), hv]
theorem info115 : (Try.prog.info? 115).map (·.size) = some 128 := by kernel_rfl
theorem index115 (w : World) (cs : List Value) (k : Nat) (hk : k < 128) (x : Int) (hx : cs[k]? = some (.int .i64 x)) :
    (Instr.index 115 (.agg cs.toArray) (.int .i64 (k : Int))).run Try.prog w = .ok (.int .i64 x) w := by
  have hu := run_underlying Try.underlying115
  have hu3 := run_underlying Try.underlying3
  have hs : (Try.prog.info? 3).map (·.size) = some 1 := by kernel_rfl
  cases hq : Try.prog.info? 3 with
  | none => simp [hq] at hs
  | some j =>
    have hj : j.size = 1 := by simpa [hq] using hs
    simp [Instr.index, asIntOf, Sem.run_bind, hu, Result.andThen, sizeOf, typeInfo, hq, hj, Go.part, isAgg, hu3, hx, hk]
/-- The loop. -/
def LRel (w : World) (X : List Int) (i : Nat) (v t : Value) (wr : World) : Prop :=
  ∃ k : Nat, t = .int .i64 (k : Int) ∧ k ≤ 128 ∧ Row wr 5 v (u8s (leafB X i k)) ∧ (∀ b, v.ownBlock = some b → w.heap.size ≤ b) ∧ Upd noB w wr
section
variable {w : World} {p : Nat} {X : List Int}
set_option maxRecDepth 100000 in
set_option maxHeartbeats 4000000 in
theorem tleaf_at (h : TabAt w p X) (hX : Told X) (i : Nat) (hi : i < 4) :
    Calls Try.prog 36 #[.pointer (some ⟨p, 0, none⟩), .int .i64 (i : Int)] w fun e w' =>
      ∃ v, e = .returned v ∧ Row w' 5 v (u8s (leafB X i 128)) ∧ Upd noB w w' ∧ (∀ b, v.ownBlock = some b → w.heap.size ≤ b) := by
  have hd1 : decide ((i : Int) < 4) = true := by simp; omega
  have HR := Lib.hid (h.leaf i hi)
  have hl := h.len
  have HI := Lib.hid (show (Try.prog.info? 115).map (·.size) = some (leafL X i).length by rw [leafL_length X i hl hi]; exact info115)
  have HL := Lib.hid hl
  have H := Lib.hid h
  clear h hl
  go_enter Try.func36, Try.ntmps36
  go_wp2_with (first | (go_at_call 66; refine (tpart_at _).mono ?_; rintro e w' ⟨rfl, rfl⟩) | (refine wpList_load_mid rfl 115 _ rfl p _ rfl (leafL X i) _ HR.out Try.underlying115 rfl HI.out ?_))
  go_loopw [5, 21] (fun v t wr => LRel w X i v t wr) (fun _ t _ => 128 - (intOf t).toNat)
  case atStart => exact ⟨0, rfl, by omega, Row.nil _ _, fun b hb => by simp [Value.ownBlock] at hb, Upd.refl _ _⟩
  case round =>
    obtain ⟨k, rfl, hk, hr, hf, hu⟩ := hrel
    have HRW := Lib.hid hr
    have HF := Lib.hid hf
    have HU := Lib.hid hu
    clear hr hf hu
    by_cases hlt : k < 128
    · have hd : decide ((k : Int) < 128) = true := by simp; omega
      have hget := leafL_get X i k HL.out hi hlt
      have hsucc := leafB_succ X i k
      have hto := hX.at (i * 128 + k)
      obtain ⟨n, hn⟩ : ∃ n : Nat, X.getD (i * 128 + k) 0 = n := ⟨(X.getD (i * 128 + k) 0).toNat, by omega⟩
      rw [hn] at hget hto hsucc
      have hn5 : n < 512 := by omega
      have hix := fun W : World => index115 W (leafL X i) k hlt n hget
      clear hget
      have HS := Lib.hid hsucc
      have hlen : (u8s (leafB X i k)).length ≤ 4096 := by simp [u8s, leafB_length]; omega
      clear hsucc hto hn
      go_wp2_with (go_at_call 67; refine (tput_at _ _ n hn5 HRW.out hlen).mono ?_; rintro e w2 ⟨v2, rfl, hr2, hu2, hat2⟩)
      refine ⟨⟨k + 1, by go_num, by omega, ?_, ?_, ?_⟩, by simp [intOf]; omega⟩
      · rw [HS.out, u8s_append]; exact hr2
      · intro b hb
        rcases hat2 with hat2 | ⟨b2, hb2, hb3⟩
        · exact HF.out b (hat2 ▸ hb)
        · rw [hb2] at hb; injection hb with hb; have := HU.out.size; omega
      · exact HU.out.trans hu2 (fun b hb => .inr (HF.out b hb))
    · have hd : decide ((k : Int) < 128) = false := by simp; omega
      obtain rfl : k = 128 := by omega
      go_wp2
      go_ret
      exact ⟨_, rfl, HRW.out, HU.out, HF.out⟩
end
end Go.Proofs.Ytejpcgoblgaieaa
