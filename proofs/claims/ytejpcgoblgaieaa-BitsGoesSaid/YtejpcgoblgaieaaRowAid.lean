/-
  What a row of whole numbers among a law's arguments is in memory, and that it is no longer than its weight allows. Plain lemmas.
-/
import Derived.SizedLaws
import Derived.ChangeSlices
import Derived.OpenShut
import Derived.ProofKit
namespace Go.Proofs.Ytejpcgoblgaieaa
open Go.ChangeShapes Go.WideShapes

theorem ints_in {H : Type} {enc : TypeId × Value → H} {P : Program} {W : World} {spare : Nat → Bool} {held : Bool} {t e : TypeId} {k : IntKind} {a : Option Addr} {len cap : Nat} {d : DataW H} {ps : List MemPlace} {ts : List TypeId} {ds : List (DataW H)} {j : Nat}
    (hsz : (DataW.weightsEach P ts ds).all (· ≤ reachBytes) = true) (ht : ts[j]? = some t) (hd : ds[j]? = some d) (hu : P.underlying t = some (.slice e)) (he : P.underlying e = some (.int k)) (hc : P.cellsOf e = 1) {B : Nat} (hB : P.bytesOf e = B)
    (h : DataW.Trod enc P W 0 spare held t (.slice a len cap) d ps) :
    ∃ zs : List Int, len = zs.length ∧ zs.length * B ≤ 140737488351232 ∧ (∀ n ∈ zs, (Lit.int k n).wf = true) ∧ cap ≤ maxLen ∧ len ≤ cap ∧
      (0 < zs.length → ∃ b o, a = some ⟨b, o, none⟩ ∧ b < W.heap.size ∧ ∀ i, i < zs.length → W.cell? ⟨b, o + i, none⟩ = some (.int k (zs.getD i 0))) := by
  obtain ⟨fuel, hf⟩ := h
  rcases open_ints hu he hc hf with ⟨hcs, _⟩ | ⟨x, l, c, zs, hcs, _, hl, hm, hz, hx, hcell, hwf⟩
  · simp [Value.cells] at hcs
    obtain ⟨rfl, rfl, rfl⟩ := hcs
    exact ⟨[], rfl, by simp, by simp, Nat.zero_le _, Nat.le_refl _, fun h => absurd h (by simp)⟩
  · simp [Value.cells] at hcs
    obtain ⟨rfl, rfl, rfl⟩ := hcs
    obtain ⟨hx, _⟩ := Prod.mk.inj hx
    subst hx
    have z := sized_slice hsz ht hd hu
    rw [hB] at z
    have hl2 : len ≤ zs.length := by
      rw [hz]
      split
      · exact hl
      · exact Nat.le_refl _
    have h1 : (lits (H := H) k (zs.take len)).length + (lits (H := H) k (zs.drop len)).length = zs.length := by
      simp [lits]
      omega
    rw [h1] at z
    have hlen : (zs.take len).length = len := by rw [List.length_take]; omega
    refine ⟨zs.take len, hlen.symm, ?_, fun n hn => hwf n (List.mem_of_mem_take hn), hm, hl, fun h0 => ?_⟩
    · rw [hlen]; exact Nat.le_trans (Nat.mul_le_mul_right _ hl2) z
    · rw [hlen] at h0
      have c0 := hcell 0 (by omega)
      have hsp := World.cell?_spot c0
      obtain ⟨b, o, sp⟩ := x
      have hspot : sp = none := by simpa [Addr.add] using hsp
      subst hspot
      refine ⟨b, o, rfl, ?_, fun i hi => ?_⟩
      · simp only [Addr.add, World.cell?] at c0
        by_cases hb : b < W.heap.size
        · exact hb
        · simp [Array.getElem?_eq_none (Nat.le_of_not_lt hb)] at c0
      · rw [hlen] at hi
        have := hcell i (by omega)
        have ha : (⟨b, o, none⟩ : Addr).add i = ⟨b, o + i, none⟩ := by
          unfold Addr.add
          by_cases h : i = 0
          · simp [h]
          · simp [h]
        rw [ha] at this
        rw [this, List.getD_eq_getElem?_getD, List.getD_eq_getElem?_getD, List.getElem?_take, if_pos hi]
/-- A row of two whole numbers, by value. -/
theorem arr2_in {H : Type} {enc : TypeId × Value → H} {P : Program} {W : World} {r : Reach} {b0 base : Nat} {spare : Nat → Bool} {held : Bool} {t e : TypeId} {k : IntKind} {v : Value} {d : DataW H} {ps : List MemPlace}
    (ht : P.underlying t = some (.array 2 e)) (he : P.underlying e = some (.int k)) (hct : P.cellsOf t = 2) (hce : P.cellsOf e = 1) (hv : Value.okWide P W r b0 t v) (h : DataW.Trod enc P W base spare held t v d ps) :
    ∃ x y : Int, v = .agg #[.int k x, .int k y] := by
  obtain ⟨cs, rfl⟩ : ∃ cs, v = .agg cs := by
    simp only [Value.okWide, ht] at hv
    obtain ⟨cs, rfl, _⟩ := hv
    exact ⟨cs, rfl⟩
  obtain ⟨fuel, hf⟩ := h
  obtain ⟨xs, m, rfl, _, hl, hn, hel⟩ := DataW.trod_array ht hf
  rw [hct] at hl
  simp only [Value.cells] at hl hel
  obtain ⟨cl⟩ := cs
  match cl, hl with
  | [c0, c1], _ =>
    have h0 := hel 0 (by omega)
    have h1 := hel 1 (by omega)
    simp only [hce] at h0 h1
    match xs, hn with
    | [x0, x1], _ =>
      simp at h0 h1
      obtain ⟨n0, e0, _⟩ := DataW.trod_int he h0
      obtain ⟨n1, e1, _⟩ := DataW.trod_int he h1
      simp at e0 e1
      exact ⟨n0, n1, by rw [e0, e1]⟩
theorem wf_i64 {zs : List Int} (h : ∀ n ∈ zs, (Lit.int .i64 n).wf = true) : ∀ z ∈ zs, -9223372036854775808 ≤ z ∧ z ≤ 9223372036854775807 := by
  intro z hz
  have := h z hz
  simp [Lit.wf, IntKind.min, IntKind.max, IntKind.signed, IntKind.bits] at this
  omega
theorem wf_u8 {zs : List Int} (h : ∀ n ∈ zs, (Lit.int .u8 n).wf = true) : ∀ z ∈ zs, 0 ≤ z ∧ z < 256 := by
  intro z hz
  have := h z hz
  simp [Lit.wf, IntKind.min, IntKind.max, IntKind.signed, IntKind.bits] at this
  omega
end Go.Proofs.Ytejpcgoblgaieaa
