/-
  An argument that is an array of four numbers is opened: a plain lemma over any program.
-/
import Derived.Test.YtejpcgoblgaieaaRowAid
set_option linter.unusedVariables false
namespace Go.Proofs.Ytejpcgoblgaieaa
open Go.RowKit
theorem arr4_in {H : Type} {enc : TypeId × Value → H} {P : Program} {W : World} {r : Reach} {b0 base : Nat} {spare : Nat → Bool} {held : Bool} {t e : TypeId} {k : IntKind} {v : Value} {d : DataW H} {ps : List MemPlace}
    (ht : P.underlying t = some (.array 4 e)) (he : P.underlying e = some (.int k)) (hct : P.cellsOf t = 4) (hce : P.cellsOf e = 1) (hv : Value.okWide P W r b0 t v) (h : DataW.Trod enc P W base spare held t v d ps) :
    ∃ x y z u : Int, v = .agg #[.int k x, .int k y, .int k z, .int k u] := by
  obtain ⟨cs, rfl⟩ : ∃ cs, v = .agg cs := by
    simp only [Value.okWide, ht] at hv
    obtain ⟨cs, rfl, _⟩ := hv
    exact ⟨cs, rfl⟩
  obtain ⟨fuel, hf⟩ := h
  obtain ⟨xs, m, rfl, _, hl, hn, hel⟩ := DataW.trod_array ht hf
  rw [hct] at hl
  simp only [Value.cells] at hl hel
  obtain ⟨cl⟩ := cs
  match cl, hl with
  | [c0, c1, c2, c3], _ =>
    have h0 := hel 0 (by omega)
    have h1 := hel 1 (by omega)
    have h2 := hel 2 (by omega)
    have h3 := hel 3 (by omega)
    simp only [hce] at h0 h1 h2 h3
    match xs, hn with
    | [x0, x1, x2, x3], _ =>
      simp at h0 h1 h2 h3
      obtain ⟨n0, e0, _⟩ := DataW.trod_int he h0
      obtain ⟨n1, e1, _⟩ := DataW.trod_int he h1
      obtain ⟨n2, e2, _⟩ := DataW.trod_int he h2
      obtain ⟨n3, e3, _⟩ := DataW.trod_int he h3
      simp at e0 e1 e2 e3
      exact ⟨n0, n1, n2, n3, by rw [e0, e1, e2, e3]⟩
end Go.Proofs.Ytejpcgoblgaieaa
