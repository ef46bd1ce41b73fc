/-
  append(b, make([]byte, m)...) is append(b, s...), s a string of m zeros: a plain law over any program.
-/
import Derived.Test.YtejpcgoblgaieaaSlices
import Derived.Lib.AppendStr
import Derived.Lib.AppendZeros
set_option linter.unusedVariables false
set_option linter.unusedSimpArgs false
namespace Go.Proofs.Ytejpcgoblgaieaa
open Go.RowKit
/-- m zeros, as a string. -/
def zstr (m : Nat) : ByteArray := ⟨(List.replicate m (0 : UInt8)).toArray⟩
theorem zstr_size (m : Nat) : (zstr m).size = m := by
  show (List.replicate m (0 : UInt8)).toArray.size = m
  simp
theorem zstr_cells (m : Nat) : Lib.strCells (zstr m) = List.replicate m (.int .u8 0) := by
  show (List.replicate m (0 : UInt8)).toArray.toList.map (fun b => Value.int .u8 b.toNat) = _
  simp
theorem zeroCells_str (m : Nat) : Builtin.zeroCells (Value.int .u8 0).cells m = (Lib.strCells (zstr m)).toArray := by
  rw [zstr_cells]
  apply Array.ext'
  have h1 : (Value.int .u8 0).cells = #[Value.int .u8 0] := rfl
  rw [h1]
  simp [Builtin.zeroCells]
  apply List.ext_getElem
  · simp
  · intro j h1 h2; simp [Nat.mod_one]
theorem append_zeros_run {P : Program} (w : World) (t tn u ty e : TypeId) (i : TypeInfo) (ht : P.underlying t = some (.slice e)) (htn : P.underlying tn = some (.int .i64)) (hu : P.underlying u = some .string) (hi : P.info? e = some i)
    (hz : i.zero = some (.int .u8 0)) (hsize : i.size = 1) (hby : i.bytes = 1) (b : Option Addr) (n cap m : Nat) (hl : n + m ≤ 140737488355328) (hcap : n ≤ cap) (h0 : 0 < m) :
    (Builtin.append_ #[t, tn] ty #[.slice b n cap, .int .i64 (m : Int)]).run P w = (Builtin.append_ #[t, u] ty #[.slice b n cap, .string (zstr m)]).run P w := by
  have hw : IntKind.i64.wrap (m : Int) = m := by rw [IntKind.wrap_i64]; omega
  have hneg : ¬ ((m : Int) < 0) := by omega
  have h48i : ¬ (281474976710656 < (m : Int)) := by omega
  have hf := fun w : World => Lib.run_firstCells_string (P := P) w 1 (zstr m)
  have hzc := zeroCells_str m
  have hs := zstr_size m
  rw [hs] at hf
  have hm : ¬ m = 0 := by omega
  by_cases hroom : n + m ≤ cap
  · simp [Builtin.append_, run_underlying ht, run_underlying htn, run_underlying hu, sizeOf, typeInfo, zeroValue, hi, hz, hsize, hby, asInt, asIntOf, hw, hneg, h48i, hm, hs, hroom, hf, Builtin.lenOf, hzc]
  · have h63 : ¬ (9223372036854775807 < (n : Int) + (m : Int)) := by omega
    have hfit : ¬ (281474976710656 < Builtin.nextslicecap (n + m) cap) := by
      have := growslice_fits (need := n + m) (old := cap) (bytes := 1) (by omega) (by omega)
      omega
    simp [Builtin.append_, run_underlying ht, run_underlying htn, run_underlying hu, sizeOf, typeInfo, zeroValue, hi, hz, hsize, hby, asInt, asIntOf, hw, hneg, h48i, hm, hs, hroom, hf, Builtin.lenOf, hzc, h63, hfit, Question.forced]
/-- AT THE OPERATION. -/
theorem append_zeros_row {P : Program} {ops : Array Oper} {rest : List Oper} {o : Oper} {a : Act} {Q : Exit → Act → World → Prop} {W : World} (hgd : o.guard = none) (s x : Operand) (t tn u e : TypeId)
    (ho : o.op = .call { callee := .builtin .append, args := #[s, x], argTypes := #[t, tn] })
    (ht : P.underlying t = some (.slice e)) (htn : P.underlying tn = some (.int .i64)) (hu : P.underlying u = some .string) (hinfo : (P.info? e).map (fun i => (i.zero, i.size, i.bytes)) = some (some (.int .u8 0), 1, 1))
    (v : Value) (cs : List Value) (m : Nat) (hs : a.eval s = v) (hx : a.eval x = .int .i64 (m : Int)) (HO : Row W e v cs) (hl : cs.length + m ≤ 140737488355328) (h0 : 0 < m) (zs : List Value) (hzs : zs = List.replicate m (.int .u8 0))
    (h : ∀ v1 w1, Row w1 e v1 (cs ++ zs) → Upd (ownB v) W w1 → wpList P ops Q rest (a.put o.dst v1) w1) : wpList P ops Q (o :: rest) a W := by
  subst hzs
  obtain ⟨i0, hi, hzz⟩ := Option.map_eq_some_iff.1 hinfo
  simp only [Prod.mk.injEq] at hzz
  obtain ⟨hz0, hz1, hz2⟩ := hzz
  have hform : ∃ b cap, v = .slice b cs.length cap ∧ cs.length ≤ cap := by
    obtain ⟨A, c, hv, h1, _⟩ := HO.form
    exact ⟨A, c, hv, h1⟩
  obtain ⟨b, cap, rfl, hcap⟩ := hform
  obtain ⟨v1, w1, hr, hown, hg, _⟩ := Lib.run_append_own_string (P := P) W 0 t u o.type e i0 ht hu hi hz0 hz1 hz2 _ cs.length cs HO (zstr m) (by rw [zstr_size]; simp only [maxLen]; omega) (by rw [zstr_size]; exact hl) (Nat.zero_le _)
  rw [← append_zeros_run W t tn u o.type e i0 ht htn hu hi hz0 hz1 hz2 b cs.length cap m hl hcap h0] at hr
  rw [zstr_size, zstr_cells] at hown
  refine Lib.wpList_append_run W hgd s x t tn ho _ _ hs hx v1 w1 hr (h v1 w1 ?_ ((Upd.refl _ _).grown hg (fun k e => .inl e)))
  unfold Row
  rw [List.length_append, List.length_replicate]
  exact hown
end Go.Proofs.Ytejpcgoblgaieaa
