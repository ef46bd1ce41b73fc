/-
  Runs of a row of truths; appending within a round of a loop: plain lemmas.
-/
import Derived.Test.YtejpcgoblgaieaaBitsPlain
import Derived.Test.YtejpcgoblgaieaaSlices
import Derived.Maps.OwnIn
set_option linter.unusedVariables false
set_option linter.unusedSimpArgs false
namespace Go.Proofs.Ytejpcgoblgaieaa
open Go.RowKit
theorem nums_run (S : List Bool) : ∀ (s k : Nat), k + s ≤ S.length → (∀ j, j < s → tr S (k + j) = true) → (numsFrom S k).length = s + (numsFrom S (k + s)).length
  | 0, k, _, _ => by simp
  | s + 1, k, h, ht => by
    rw [numsFrom_hit S k (by omega) (by have := ht 0 (by omega); simpa using this), List.length_cons, nums_run S s (k + 1) (by omega) (fun j hj => by have := ht (j + 1) (by omega); rwa [show k + 1 + j = k + (j + 1) by omega]), show k + 1 + s = k + (s + 1) by omega]
    omega
/-- The next run, if there is one. -/
theorem runs_step (S : List Bool) (e : Nat) : (runsFrom S e = [] ∧ numsFrom S e = []) ∨ ∃ k s : Nat, runsFrom S e = (k, s) :: runsFrom S (k + s) ∧ e ≤ k ∧ 1 ≤ s ∧ k + s ≤ S.length ∧ (∀ j, j < s → tr S (k + j) = true) ∧ tr S (k + s) = false ∧
    (numsFrom S e).length = s + (numsFrom S (k + s)).length ∧ tr S k = true := by
  rcases numsFrom_next S _ e rfl with ⟨h1, h2⟩ | ⟨k, h1, h2, h3, h4⟩
  · exact .inl ⟨runsFrom_none S e h1, h2⟩
  · have ht := (findFrom_tr S e k h1).2.1
    obtain ⟨r1, r2, r3, r4⟩ := runEnd_spec S k h3 ht
    have hs : k + (runEnd S k - k) = runEnd S k := by omega
    refine .inr ⟨k, runEnd S k - k, by rw [hs]; exact runsFrom_next S e k h1, h2, by omega, by omega, fun j hj => r3 (k + j) (by omega) (by omega), by rw [hs]; exact r4, ?_, ht⟩
    have hk := numsFrom_hit S k h3 ht
    have h5 : (numsFrom S e).length = (numsFrom S k).length := by rw [hk, h4]
    rw [h5]
    exact nums_run S (runEnd S k - k) k (by omega) (fun j hj => r3 (k + j) (by omega) (by omega))
theorem runs_len (S : List Bool) : ∀ (d e : Nat), S.length - e ≤ d → (runsFrom S e).length ≤ (numsFrom S e).length
  | d, e, hd => by
    rcases runs_step S e with ⟨h1, h2⟩ | ⟨k, s, h1, h2, h3, h4, _, _, h5, _⟩
    · rw [h1]; simp
    · match d with
      | 0 => omega
      | d + 1 =>
        have := runs_len S d (k + s) (by omega)
        rw [h1, List.length_cons]; omega
section
variable {P : Program} {ops : Array Oper} {rest : List Oper} {o : Oper} {a : Act} {Q : Exit → Act → World → Prop} {F : Fence} {n : Nat}
/-- append(v, y), within a round: the goal's world is 'W.alloc' of the variadic's box. -/
theorem append_eltIn {W : World} (hgd : o.guard = none) (s x : Operand) (t e : TypeId) (z : Value) (size bytes : Nat)
    (ho : o.op = .call { callee := .builtin .append, args := #[s, x], argTypes := #[t, t] })
    (ht : P.underlying t = some (.slice e)) (hinfo : (P.info? e).map (fun i => (i.zero, i.size, i.bytes)) = some (some z, size, bytes)) (hz : z.cells.size = size) (hsz : 0 < size)
    (v : Value) (m : Nat) (cs ys : List Value) (hs : a.eval s = v) (hx : a.eval x = .slice (some ⟨W.heap.size, 0, none⟩) 1 1) (hy : ys.length = size) (h1 : ∀ u ∈ ys, u.oneCell' = true)
    (HO : W.ownsRow 0 e size v m cs) (hl : (m + 1) * bytes ≤ 140737488355328) (hm : m + 1 ≤ 140737488355328)
    (h : ∀ v1 w1, w1.ownsRow 0 e size v1 (m + 1) (cs ++ ys) → Upd (ownB v) W w1 → (v1.ownBlock = v.ownBlock ∨ ∃ b, v1.ownBlock = some b ∧ W.heap.size ≤ b) → wpListIn F n P ops Q rest (a.put o.dst v1) w1) :
    wpListIn F n P ops Q (o :: rest) a (W.alloc (.cells ys.toArray e)) := by
  obtain ⟨i0, hi, hzz⟩ := Option.map_eq_some_iff.1 hinfo
  simp only [Prod.mk.injEq] at hzz
  obtain ⟨hz0, hz1, hz2⟩ := hzz
  refine wpListIn_append_own_at (W.alloc (.cells ys.toArray e)) hgd s x t ho 0 e i0 z size bytes ht hi hz0 hz1 hz2 hz hsz v m cs hs (HO.alloc _) ⟨W.heap.size, 0, none⟩ 1 1 ys hx (by rw [hy, Nat.one_mul])
    (fun j u hj => by rw [add0, cell_at (heap_alloc_new W _) j]; simpa using hj) h1 (by simp only [maxLen]; omega) hl (Nat.zero_le _) ?_
  intro v1 w1 hown hg _ hat
  refine h v1 w1 hown (((Upd.refl _ _).alloc _).grown hg (fun k e => .inl e)) ?_
  rcases hat with hat | hat
  · exact .inl hat
  · exact .inr ⟨_, hat, by simp⟩
end
theorem eql_nilF {P : Program} {t : TypeId} {s r : Array TypeId} {v : Bool} (h : P.underlying t = some (.func s r v)) (f : Fn) (cs bs : Array Value) (W : World) : (binOp .eql t (.func f cs bs) .nilFunc).run P W = .ok (.bool false) W := by
  have he : (Op.equalIn 10000 t (.func f cs bs) .nilFunc).run P W = .ok false W := by
    show (Op.equalIn (9999 + 1) t (.func f cs bs) .nilFunc).run P W = .ok false W
    generalize 9999 = d
    simp [Op.equalIn, run_underlying h]
  simp only [binOp]
  simp [Op.equal, Op.maxDepth, he]
/-- A row of pairs. -/
def pairC (R : List (Nat × Nat)) : List Value := R.flatMap fun x => [Value.int .i64 (x.1 : Int), Value.int .i64 (x.2 : Int)]
theorem pairC_length (R : List (Nat × Nat)) : (pairC R).length = R.length * 2 := by
  induction R with
  | nil => rfl
  | cons x R ih => rw [pairC, List.flatMap_cons, List.length_append, ← pairC, ih]; simp; omega
theorem pairC_snoc (R : List (Nat × Nat)) (x : Nat × Nat) : pairC (R ++ [x]) = pairC R ++ [.int .i64 (x.1 : Int), .int .i64 (x.2 : Int)] := by simp [pairC]
theorem pairC_get : ∀ (R : List (Nat × Nat)) (i : Nat) (x : Nat × Nat), R[i]? = some x → (pairC R)[i * 2]? = some (.int .i64 (x.1 : Int)) ∧ (pairC R)[i * 2 + 1]? = some (.int .i64 (x.2 : Int))
  | y :: R, 0, x, h => by
    obtain rfl : y = x := by simpa using h
    exact ⟨rfl, rfl⟩
  | y :: R, i + 1, x, h => by
    have := pairC_get R i x (by simpa using h)
    have e : pairC (y :: R) = .int .i64 (y.1 : Int) :: .int .i64 (y.2 : Int) :: pairC R := rfl
    rw [e, show (i + 1) * 2 = i * 2 + 1 + 1 by omega, show i * 2 + 1 + 1 + 1 = (i * 2 + 1) + 1 + 1 by omega]
    simpa using this
  | [], i, x, h => by simp at h
end Go.Proofs.Ytejpcgoblgaieaa
