/-
  What an argument of type []Op is in memory: three whole numbers for each.
-/
import Derived.Test.YtejpcgoblgaieaaMade07
import Derived.Test.YtejpcgoblgaieaaRowAid
set_option linter.unusedVariables false
set_option linter.unusedSimpArgs false
namespace Go.Proofs.Ytejpcgoblgaieaa.Law07
open Go.ChangeShapes Go.WideShapes Go.RowKit Go.Proofs.Ytejpcgoblgaieaa

set_option maxRecDepth 100000 in
theorem ops_in {H : Type} {enc : TypeId × Value → H} {W : World} {spare : Nat → Bool} {held : Bool} {a : Option Addr} {len cap : Nat} {d : DataW H} {ps : List MemPlace}
    (h : DataW.Trod enc Try.prog W 0 spare held 54 (.slice a len cap) d ps) : len ≤ maxLen ∧ OpsIn W a len := by
  have hc : Try.prog.cellsOf 107 = 3 := by kernel_rfl
  have hc1 : Try.prog.cellsOf 3 = 1 := by kernel_rfl
  obtain ⟨fuel, hf⟩ := h
  rcases DataW.trod_slice Try.underlying54 hf with ⟨hcs, _⟩ | ⟨x, l, c, elems, rest, n, _, hcs, _, hb, hl, hm, hlen, hel, _⟩
  · simp [Value.cells] at hcs
    obtain ⟨rfl, rfl, rfl⟩ := hcs
    exact ⟨Nat.zero_le _, fun h => absurd h (by simp)⟩
  · simp [Value.cells] at hcs
    obtain ⟨rfl, rfl, rfl⟩ := hcs
    refine ⟨Nat.le_trans hl hm, fun h0 => ?_⟩
    have each : ∀ i, i < len → ∃ k l q : Int, W.cell? (x.add (i * 3)) = some (.int .i64 k) ∧ W.cell? ((x.add (i * 3)).add 1) = some (.int .i64 l) ∧ W.cell? ((x.add (i * 3)).add 2) = some (.int .i64 q) := by
      intro i hi
      have h1 := hel i hi
      rw [List.getElem?_eq_getElem (by rw [hlen]; exact hi), hc, Option.bind_eq_some_iff] at h1
      obtain ⟨cs, hcs, hy⟩ := h1
      obtain ⟨_, hcl, hce⟩ := World.cells?_some hcs
      obtain ⟨xs, m, _, _, _, hn, hfld⟩ := DataW.trod_struct Try.underlying107 hy
      match cs, hcl with
      | [v0, v1, v2], _ =>
        match xs, hn with
        | [y0, y1, y2], _ =>
          have g0 := hfld 0 _ rfl
          have g1 := hfld 1 _ rfl
          have g2 := hfld 2 _ rfl
          simp [hc1] at g0 g1 g2
          obtain ⟨n0, e0, _⟩ := DataW.trod_int Try.underlying3 g0
          obtain ⟨n1, e1, _⟩ := DataW.trod_int Try.underlying3 g1
          obtain ⟨n2, e2, _⟩ := DataW.trod_int Try.underlying3 g2
          simp at e0 e1 e2
          have f0 := hce 0 (by omega)
          have f1 := hce 1 (by omega)
          have f2 := hce 2 (by omega)
          simp [e0, e1, e2] at f0 f1 f2
          refine ⟨n0, n1, n2, ?_, f1, f2⟩
          simpa [Addr.add] using f0
    obtain ⟨_, _, _, c00, _, _⟩ := each 0 h0
    have hsp := World.cell?_spot c00
    obtain ⟨b, o, sp⟩ := x
    obtain rfl : sp = none := by
      unfold Addr.add at hsp
      simpa using hsp
    have hadd : ∀ j, (⟨b, o, none⟩ : Addr).add j = ⟨b, o + j, none⟩ := fun j => Addr.add_mid b o j
    have hadd2 : ∀ o j, (⟨b, o, none⟩ : Addr).add j = ⟨b, o + j, none⟩ := fun o j => Addr.add_mid b o j
    refine ⟨b, o, rfl, ?_, fun i hi => ?_⟩
    · rw [hadd] at c00; exact World.block_lt_of_cell? W _ c00
    · obtain ⟨k, l, q, d0, d1, d2⟩ := each i hi
      rw [hadd] at d0
      rw [hadd, hadd2] at d1 d2
      exact ⟨k, l, q, d0, d1, d2⟩
end Go.Proofs.Ytejpcgoblgaieaa.Law07
