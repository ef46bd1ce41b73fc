/-
  Slices that a call has made itself: read, stored into, appended to. Plain laws over any program.
-/
import Derived.Test.YtejpcgoblgaieaaBase
import Derived.Maps.AppendAt
import Derived.Deep.AppendLies
import Derived.Laws.BytesArg
set_option linter.unusedVariables false
set_option linter.unusedSimpArgs false
namespace Go.Proofs.Ytejpcgoblgaieaa
open Go.RowKit

/-- v is a slice of cs.length elements (each one cell, of type e), at the head of a block that is nobody else's, or nil. -/
def Row (w : World) (e : TypeId) (v : Value) (cs : List Value) : Prop := w.ownsRow 0 e 1 v cs.length cs
/-- The block of a slice. -/
def ownB (v : Value) : Nat → Prop := fun k => v.ownBlock = some k

theorem Row.nil (w : World) (e : TypeId) : Row w e (.slice none 0 0) [] := ⟨rfl, .inl ⟨rfl, rfl⟩⟩
theorem Row.upd {S : Nat → Prop} {w w' : World} {e : TypeId} {v : Value} {cs : List Value} (h : Row w e v cs) (hu : Upd S w w') (hn : ∀ k, v.ownBlock = some k → ¬ S k) : Row w' e v cs := ownsRow_upd h hu hn
theorem Row.upd0 {w w' : World} {e : TypeId} {v : Value} {cs : List Value} (h : Row w e v cs) (hu : Upd noB w w') : Row w' e v cs := h.upd hu (fun _ _ x => x)
theorem Row.lt {w : World} {e : TypeId} {v : Value} {cs : List Value} (h : Row w e v cs) {k : Nat} (hk : v.ownBlock = some k) : k < w.heap.size := ownsRow_lt h k hk
/-- The type of a row's block. -/
theorem Row.typed {w : World} {e : TypeId} {v : Value} {cs : List Value} (h : Row w e v cs) {k : Nat} (hk : v.ownBlock = some k) : ∃ c, w.heap[k]? = some (.cells c e (0, 0)) := by
  rcases h.2 with ⟨rfl, _⟩ | ⟨g, cap, cur, rfl, _, hh, _⟩
  · simp [Value.ownBlock] at hk
  · have : g = k := by simpa [Value.ownBlock] using hk
    subst this; exact ⟨cur, hh⟩
/-- A row isn't the block of another type's cells. -/
theorem Row.ne {w : World} {e : TypeId} {v : Value} {cs : List Value} (h : Row w e v cs) {b : Nat} {c : Array Value} {t : TypeId} {z : Nat × Nat} (hb : w.heap[b]? = some (.cells c t z)) (ht : e ≠ t) {k : Nat} (hk : v.ownBlock = some k) : k ≠ b := by
  rintro rfl
  obtain ⟨c', hc⟩ := h.typed hk
  rw [hb] at hc; injection hc with hc; injection hc with _ h2; exact ht h2.symm
theorem Row.form {w : World} {e : TypeId} {v : Value} {cs : List Value} (h : Row w e v cs) :
    ∃ A c, v = .slice A cs.length c ∧ cs.length ≤ c ∧ c ≤ maxLen ∧ (0 < c → ∃ g, A = some ⟨g, 0, none⟩ ∧ g < w.heap.size ∧ (∀ j, w.frozen? ⟨g, j, none⟩ = false) ∧ ∀ j (hj : j < cs.length), w.cell? ⟨g, j, none⟩ = some cs[j]) := by
  rcases h.2 with ⟨rfl, h0⟩ | ⟨g, cap, cur, rfl, _, hh, h1, h2, h3, h4⟩
  · exact ⟨none, 0, by rw [h0], by omega, by unfold maxLen; omega, fun x => by omega⟩
  · refine ⟨_, cap, rfl, h1, h2, fun _ => ⟨g, rfl, lt_of_block hh, fun j => frozen_at hh j, fun j hj => ?_⟩⟩
    have := h.cells (g := g) rfl j cs[j] (List.getElem?_eq_getElem hj)
    rwa [add0] at this
theorem Row.keepA {w w' : World} {e : TypeId} {v : Value} {cs : List Value} (h : Row w e v cs) (hk : KeepA w w') : Row w' e v cs := by
  refine ⟨h.1, ?_⟩
  rcases h.2 with h2 | ⟨g, cap, cur, rfl, hb, hg, rest⟩
  · exact .inl h2
  · exact .inr ⟨g, cap, cur, rfl, hb, hk _ _ _ _ hg, rest⟩
/-- Stored into. -/
theorem Row.store {w : World} {e : TypeId} {g n c : Nat} {cs : List Value} (h : Row w e (.slice (some ⟨g, 0, none⟩) n c) cs) (j : Nat) (u : Value) : Row (w.setCell ⟨g, j, none⟩ u) e (.slice (some ⟨g, 0, none⟩) n c) (cs.set j u) := by
  unfold Row at h ⊢
  rw [List.length_set]
  have hn : n = cs.length := by
    rcases h.2 with ⟨h1, _⟩ | ⟨g', cap, cur, h1, _⟩
    · cases h1
    · injection h1
  subst hn
  exact (h.stored j u).1

/-- 'string(b)', b a row of bytes of the call's own. -/
theorem row_string {P : Program} {w : World} {g n c : Nat} {xs : List Int} (src e dst e' : TypeId) (hs : P.underlying src = some (.slice e)) (he : P.underlying e = some (.int .u8)) (hd : P.underlying dst = some .string)
    (h : w.ownsRow 0 e' 1 (.slice (some ⟨g, 0, none⟩) n c) n (xs.map (Value.int .u8))) : (convert src dst (.slice (some ⟨g, 0, none⟩) n c)).run P w = .ok (.string (strOfNums xs)) w := by
  have hl : xs.length = n := by have := h.1; simpa using this
  refine run_convert_bytes_arg w src e hs he g 0 n c xs hl (fun i hi => ?_) dst hd
  have hc := h.cells (g := g) rfl i (.int .u8 (xs.getD i 0)) (by simp [List.getElem?_eq_getElem (show i < xs.length by omega), List.getD_eq_getElem?_getD])
  rw [add0] at hc
  rw [Nat.zero_add]; exact hc
section
variable {P : Program} {ops : Array Oper} {rest : List Oper} {o : Oper} {a : Act} {Q : Exit → Act → World → Prop}
/-- append(v, y): the goal's world is 'W.alloc' of the variadic's box. -/
theorem append_one {W : World} (hgd : o.guard = none) (s x : Operand) (t e : TypeId) (z : Value) (bytes : Nat)
    (ho : o.op = .call { callee := .builtin .append, args := #[s, x], argTypes := #[t, t] })
    (ht : P.underlying t = some (.slice e)) (hinfo : (P.info? e).map (fun i => (i.zero, i.size, i.bytes)) = some (some z, 1, bytes)) (hz : z.cells.size = 1)
    (v : Value) (cs : List Value) (y : Value) (hs : a.eval s = v) (hx : a.eval x = .slice (some ⟨W.heap.size, 0, none⟩) 1 1) (h1 : y.oneCell' = true)
    (HO : Row W e v cs) (hl : (cs.length + 1) * bytes ≤ 140737488355328) (hm : cs.length + 1 ≤ 140737488355328)
    (h : ∀ v1 w1, Row w1 e v1 (cs ++ [y]) → Upd (ownB v) W w1 → (v1.ownBlock = v.ownBlock ∨ ∃ b, v1.ownBlock = some b ∧ W.heap.size ≤ b) → wpList P ops Q rest (a.put o.dst v1) w1) :
    wpList P ops Q (o :: rest) a (W.alloc (.cells #[y] e)) := by
  obtain ⟨i0, hi, hzz⟩ := Option.map_eq_some_iff.1 hinfo
  simp only [Prod.mk.injEq] at hzz
  obtain ⟨hz0, hz1, hz2⟩ := hzz
  refine wpList_append_own_at (W.alloc (.cells #[y] e)) hgd s x t ho 0 e i0 z 1 bytes ht hi hz0 hz1 hz2 hz (by omega) v cs.length cs hs (HO.alloc _) ⟨W.heap.size, 0, none⟩ 1 1 [y] hx rfl
    (World.news_of_block (cs := #[y]) (t := e) (fr := (0, 0)) (heap_alloc_new W _)) (by simpa using h1) (by simp only [maxLen]; omega) hl (Nat.zero_le _) ?_
  intro v1 w1 hown hg _ hat
  refine h v1 w1 (by simpa [Row] using hown) (((Upd.refl _ _).alloc _).grown hg (fun k e => .inl e)) ?_
  rcases hat with hat | hat
  · exact .inl hat
  · exact .inr ⟨_, hat, by simp⟩
/-- append(v, ys...), ys a slice that is read, nil let in. -/
theorem append_row {W : World} (hgd : o.guard = none) (s x : Operand) (t e : TypeId) (z : Value) (bytes : Nat)
    (ho : o.op = .call { callee := .builtin .append, args := #[s, x], argTypes := #[t, t] })
    (ht : P.underlying t = some (.slice e)) (hinfo : (P.info? e).map (fun i => (i.zero, i.size, i.bytes)) = some (some z, 1, bytes)) (hz : z.cells.size = 1)
    (v : Value) (cs ys : List Value) (A : Option Addr) (m c : Nat) (hs : a.eval s = v) (hx : a.eval x = .slice A m c) (hm : ys.length = m) (h1 : ∀ u ∈ ys, u.oneCell' = true)
    (HO : Row W e v cs) (HR : 0 < m → ∃ ad : Addr, A = some ad ∧ ∀ j u, ys[j]? = some u → W.cell? (ad.add j) = some u) (hl : (cs.length + m) * bytes ≤ 140737488355328) (hn : cs.length + m ≤ 140737488355328)
    (h : ∀ v1 w1, Row w1 e v1 (cs ++ ys) → Upd (ownB v) W w1 → (v1.ownBlock = v.ownBlock ∨ ∃ b, v1.ownBlock = some b ∧ W.heap.size ≤ b) → wpList P ops Q rest (a.put o.dst v1) w1) :
    wpList P ops Q (o :: rest) a W := by
  obtain ⟨i0, hi, hzz⟩ := Option.map_eq_some_iff.1 hinfo
  simp only [Prod.mk.injEq] at hzz
  obtain ⟨hz0, hz1, hz2⟩ := hzz
  have hrun : ∃ v1 w1, (Builtin.append_ #[t, t] o.type #[v, .slice A m c]).run P W = .ok v1 w1 ∧ Row w1 e v1 (cs ++ ys) ∧ Upd (ownB v) W w1 ∧ (v1.ownBlock = v.ownBlock ∨ ∃ b, v1.ownBlock = some b ∧ W.heap.size ≤ b) := by
    rcases Nat.eq_zero_or_pos m with h0 | h0
    · subst h0
      obtain rfl : ys = [] := List.eq_nil_of_length_eq_zero hm
      refine ⟨v, W, ?_, by simpa using HO, Upd.refl _ _, .inl rfl⟩
      rcases HO.2 with ⟨rfl, hn⟩ | ⟨g, cap, cur, rfl, _, _, hnc, _⟩
      · cases A <;> simp [Builtin.append_, run_underlying ht, sizeOf, typeInfo, hi, Builtin.lenOf, Builtin.firstCells, loadCells, loadCellsFrom]
      · cases A <;> simp [Builtin.append_, run_underlying ht, sizeOf, typeInfo, hi, Builtin.lenOf, Builtin.firstCells, loadCells, loadCellsFrom, hnc, storeCells]
    · obtain ⟨ad, rfl, hc⟩ := HR h0
      obtain ⟨v1, w1, hr, h2, h3, _, h5⟩ := run_append_own_at (P := P) W 0 t o.type e i0 z 1 bytes ht hi hz0 hz1 hz2 hz (by omega) v cs.length cs HO ad m c ys (by simpa using hm) hc h1 (by simp only [maxLen]; omega) hl (Nat.zero_le _)
      refine ⟨v1, w1, hr, by simpa [Row, hm] using h2, (Upd.refl _ _).grown h3 (fun k e => .inl e), ?_⟩
      rcases h5 with h5 | h5
      · exact .inl h5
      · exact .inr ⟨_, h5, Nat.le_refl _⟩
  obtain ⟨v1, w1, hr, hown, hg, hat⟩ := hrun
  refine wpList_plain hgd fun K hK => ?_
  unfold Oper.wp execOp
  simp only [ho, resolve, invoke, builtin, Sem.run_bind, Sem.run_pure, Result.andThen_ok, List.map_toArray, List.map_cons, List.map_nil, hs, hx, hr]
  exact hK _ _ (h v1 w1 hown hg hat)
end
end Go.Proofs.Ytejpcgoblgaieaa
