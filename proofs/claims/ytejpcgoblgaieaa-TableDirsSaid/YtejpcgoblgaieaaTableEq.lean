/-
  Two leaves, as a whole, are compared: plain lemmas over the model.
-/
import Derived.ChangeKeysEq
import Derived.Laws.StructEq
import Derived.Test.YtejpcgoblgaieaaTable4
set_option linter.unusedVariables false
set_option linter.unusedSimpArgs false
namespace Go.Proofs.Ytejpcgoblgaieaa
theorem eq_items (w : World) (d : Nat) (xs ys : List Int) : ∀ is : List Nat, (∀ j ∈ is, j < xs.length ∧ j < ys.length) →
    (Op.eqItems (d + 1) 3 1 (nums xs) (nums ys) is).run Try.prog w = .ok (is.all fun j => xs.getD j 0 == ys.getD j 0) w := by
  intro is
  have hu3 := run_underlying Try.underlying3
  induction is with
  | nil => intro _; simp [Op.eqItems]
  | cons j is ih =>
    intro h
    have h1 := h j (by simp)
    have h2 := nums_get xs j h1.1
    have h3 := nums_get ys j h1.2
    have ih := ih (fun k hk => h k (by simp [hk]))
    simp [Op.eqItems, Sem.run_bind, Go.part, isAgg, hu3, Result.andThen, h2, h3, Op.equalIn]
    cases hq : (xs[j]?.getD 0 == ys[j]?.getD 0) with
    | true => simp_all
    | false => simp_all
theorem all_eq {n : Nat} {xs ys : List Int} (hx : xs.length = n) (hy : ys.length = n) : ((List.range n).all fun j => xs.getD j 0 == ys.getD j 0) = decide (xs = ys) := by
  rw [Bool.eq_iff_iff, List.all_eq_true, decide_eq_true_eq]
  constructor
  · intro h
    apply List.ext_getElem (by omega)
    intro i h1 h2
    have := h i (by simp; omega)
    simpa [List.getD_eq_getElem?_getD, List.getElem?_eq_getElem h1, List.getElem?_eq_getElem h2] using this
  · intro h j _; rw [h]; simp
set_option maxRecDepth 100000 in
theorem eql_leaf (w : World) (xs ys : List Int) (hx : xs.length = 128) (hy : ys.length = 128) :
    (binOp .eql 115 (.agg (nums xs)) (.agg (nums ys))).run Try.prog w = .ok (.bool (decide (xs = ys))) w := by
  have hc : Try.prog.cellsOf 3 = 1 := by kernel_rfl
  have hs : (Try.prog.info? 3).map (·.size) = some 1 := by kernel_rfl
  cases hq : Try.prog.info? 3 with
  | none => simp [hq] at hs
  | some i =>
    rw [run_eql_struct, run_equalIn_array (d := 9999) (xs := nums xs) (ys := nums ys) (hu := Try.underlying115) (hi := hq), hc, eq_items w 9998 xs ys (List.range 128) (fun j hj => by simp at hj; omega), all_eq hx hy]
    rfl
theorem wpList_wanted {P : Program} {ops : Array Oper} {Q : Exit → Act → World → Prop} {a : Act} {w : World} {rest : List Oper} {o : Oper} (hw : Region.wanted o (yielded ops a.tmps) = true)
    (h : o.wp P a w (wpList P ops Q rest) Q) : wpList P ops Q (o :: rest) a w := by
  simp only [wpList, hw, if_true]
  exact .inl h
theorem wpList_load_wanted {P : Program} {ops : Array Oper} {Q : Exit → Act → World → Prop} {a : Act} {w : World} {rest : List Oper} {op : Oper} (hw : Region.wanted op (yielded ops a.tmps) = true) (ty : TypeId) (x : Operand) (ho : op.op = .load ty x)
    (b o : Nat) (hx : a.eval x = .pointer (some ⟨b, o, none⟩)) (cs : List Value) (d : TypeDesc) (hc : w.rangeAt b o cs)
    (hu : P.underlying ty = some d) (hd : d.isRow = true) (hi : (P.info? ty).map (·.size) = some cs.length)
    (h : wpList P ops Q rest (a.put op.dst (.agg cs.toArray)) w) : wpList P ops Q (op :: rest) a w :=
  wpList_wanted hw (wp_load_mid ty x ho b o hx cs d hc hu hd hi h)
theorem wpList_eql_wanted {P : Program} {ops : Array Oper} {Q : Exit → Act → World → Prop} {a : Act} {w : World} {rest : List Oper} {op : Oper} (hw : Region.wanted op (yielded ops a.tmps) = true) (T U : TypeId) (x y : Operand) (ho : op.op = .binOp .eql T x y U)
    (xs ys : Array Value) (hx : a.eval x = .agg xs) (hy : a.eval y = .agg ys) (hm : P.eqGuardType P.depth T = false) (v : Value)
    (hv : (binOp .eql T (.agg xs) (.agg ys)).run P w = .ok v w) (h : wpList P ops Q rest (a.put op.dst v) w) : wpList P ops Q (op :: rest) a w := by
  refine wpList_wanted hw ?_
  unfold Oper.wp execOp
  simp only [ho, hx, hy, Sem.run_bind, run_eqGuard_agg _ _ _ _ _ _ _ hm, Sem.run_pure, hv, Result.andThen_ok]
  exact h
theorem exec_eql {P : Program} {op : Oper} {a : Act} {w : World} (T U : TypeId) (x y : Operand) (ho : op.op = .binOp .eql T x y U)
    (xs ys : Array Value) (hx : a.eval x = .agg xs) (hy : a.eval y = .agg ys) (hm : P.eqGuardType P.depth T = false) (v : Value)
    (hv : (binOp .eql T (.agg xs) (.agg ys)).run P w = .ok v w) : (execOp a.eval op).run P w = .ok (.value v) w := by
  unfold execOp
  simp only [ho, hx, hy, Sem.run_bind, run_eqGuard_agg _ _ _ _ _ _ _ hm, Sem.run_pure, hv, Result.andThen_ok]
theorem guard115 : Try.prog.eqGuardType Try.prog.depth 115 = false := by kernel_rfl
end Go.Proofs.Ytejpcgoblgaieaa
