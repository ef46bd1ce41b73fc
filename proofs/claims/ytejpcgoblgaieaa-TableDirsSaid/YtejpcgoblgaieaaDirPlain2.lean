/-
  A directory's bytes tell that directory; arrays of four numbers compared: plain lemmas.
-/
import Derived.Test.YtejpcgoblgaieaaDirPlain
import Derived.Test.YtejpcgoblgaieaaTableEq
set_option linter.unusedVariables false
set_option linter.unusedSimpArgs false
namespace Go.Proofs.Ytejpcgoblgaieaa
theorem dirB_assoc (L : List Int) (S : List Bool) : dirB L S = leavesB L ++ (bytesOf S ++ zeros 432) := by rw [dirB, List.append_assoc]
theorem dirY_dirB {L : List Int} {S : List Bool} (hl : L.length = 4) (hs : S.length = 512) : dirY (dirB L S) = bytesOf S := by
  have h1 : (leavesB L).length = 16 := by rw [leavesB_length, hl]
  have h2 : (bytesOf S).length = 64 := by rw [bytesOf_length, hs, need512]
  rw [dirY, dirB_assoc, List.drop_left' h1, List.take_left' h2]
theorem drop_dirB {L : List Int} {S : List Bool} (hl : L.length = 4) (hs : S.length = 512) : (dirB L S).drop 80 = zeros 432 := by
  rw [dirB, List.drop_left']
  rw [List.length_append, leavesB_length, hl, bytesOf_length, hs, need512]
theorem val4_four (n : Nat) (h : n < 512) (a b c d : Int) (ha : a = (n : Int) / 16777216) (hb : b = (n : Int) / 65536) (hc : c = (n : Int) / 256) (hd : d = (n : Int) % 256) : a * 16777216 + b * 65536 + c * 256 + d = n := by
  omega
theorem dirL_dirB {x0 x1 x2 x3 : Int} {S : List Bool} (h : okL [x0, x1, x2, x3] = true) : dirL (dirB [x0, x1, x2, x3] S) = [x0, x1, x2, x3] := by
  simp [okL] at h
  obtain ⟨h0, h1, h2, h3⟩ := h
  obtain ⟨n0, rfl, l0⟩ := okV_nat h0
  obtain ⟨n1, rfl, l1⟩ := okV_nat h1
  obtain ⟨n2, rfl, l2⟩ := okV_nat h2
  obtain ⟨n3, rfl, l3⟩ := okV_nat h3
  have e : ∀ r : List Int, leavesB [(n0 : Int), (n1 : Int), (n2 : Int), (n3 : Int)] ++ r = (n0 : Int) / 16777216 :: (n0 : Int) / 65536 :: (n0 : Int) / 256 :: (n0 : Int) % 256 :: (n1 : Int) / 16777216 :: (n1 : Int) / 65536 :: (n1 : Int) / 256 :: (n1 : Int) % 256 ::
      (n2 : Int) / 16777216 :: (n2 : Int) / 65536 :: (n2 : Int) / 256 :: (n2 : Int) % 256 :: (n3 : Int) / 16777216 :: (n3 : Int) / 65536 :: (n3 : Int) / 256 :: (n3 : Int) % 256 :: r := fun r => rfl
  rw [dirB_assoc, e]
  generalize bytesOf S ++ zeros 432 = r
  simp only [dirL]
  rw [show val4 _ 0 = (n0 : Int) from val4_four n0 l0 _ _ _ _ rfl rfl rfl rfl, show val4 _ 4 = (n1 : Int) from val4_four n1 l1 _ _ _ _ rfl rfl rfl rfl,
    show val4 _ 8 = (n2 : Int) from val4_four n2 l2 _ _ _ _ rfl rfl rfl rfl, show val4 _ 12 = (n3 : Int) from val4_four n3 l3 _ _ _ _ rfl rfl rfl rfl]
theorem dirOK_dirB {x0 x1 x2 x3 : Int} {S : List Bool} (h : okL [x0, x1, x2, x3] = true) (hs : S.length = 512) : dirOK (dirB [x0, x1, x2, x3] S) = true := by
  rw [dirOK, dirL_dirB h, h, Bool.true_and, decide_eq_true_eq]
  exact drop_dirB rfl hs
theorem truths_dirB {L : List Int} {S : List Bool} (hl : L.length = 4) (hs : S.length = 512) : truths 512 (dirY (dirB L S)) = S := by
  rw [dirY_dirB hl hs]
  have := (truths_bytesOf S).1
  rwa [hs] at this
set_option maxRecDepth 100000 in
theorem equal_arr4 (w : World) (xs ys : List Int) (hx : xs.length = 4) (hy : ys.length = 4) :
    (Op.equalIn 10000 79 (.agg (nums xs)) (.agg (nums ys))).run Try.prog w = .ok (decide (xs = ys)) w := by
  have hc : Try.prog.cellsOf 3 = 1 := by kernel_rfl
  have hs : (Try.prog.info? 3).map (·.size) = some 1 := by kernel_rfl
  cases hq : Try.prog.info? 3 with
  | none => simp [hq] at hs
  | some i =>
    rw [run_equalIn_array (d := 9999) (xs := nums xs) (ys := nums ys) (hu := Try.underlying79) (hi := hq), hc, eq_items w 9998 xs ys (List.range 4) (fun j hj => by simp at hj; omega), all_eq hx hy]
theorem guard79 : Try.prog.eqGuardType Try.prog.depth 79 = false := by kernel_rfl
theorem neq_arr4 (w : World) (xs ys : List Int) (hx : xs.length = 4) (hy : ys.length = 4) :
    (binOp .neq 79 (.agg (nums xs)) (.agg (nums ys))).run Try.prog w = .ok (.bool (!decide (xs = ys))) w := by
  have he := equal_arr4 w xs ys hx hy
  simp only [binOp]
  simp [Op.equal, Op.maxDepth, he]
theorem exec_neq {P : Program} {op : Oper} {a : Act} {w : World} (T U : TypeId) (x y : Operand) (ho : op.op = .binOp .neq T x y U)
    (xs ys : Array Value) (hx : a.eval x = .agg xs) (hy : a.eval y = .agg ys) (hm : P.eqGuardType P.depth T = false) (v : Value)
    (hv : (binOp .neq T (.agg xs) (.agg ys)).run P w = .ok v w) : (execOp a.eval op).run P w = .ok (.value v) w := by
  unfold execOp
  simp only [ho, hx, hy, Sem.run_bind, run_eqGuard_agg _ _ _ _ _ _ _ hm, Sem.run_pure, hv, Result.andThen_ok]
end Go.Proofs.Ytejpcgoblgaieaa
