/-
  What a call does to memory: all blocks that were there lie as they lay, but for those of a set. Plain lemmas; no program stands here.
-/
import Derived.WalkKit
import Derived.ProofKit
import Derived.Lib.Hide
import Derived.Deep.Draws
import Derived.RangeFuncNested
import Derived.RangeFuncBound
import Derived.RangeFuncCalls
import Derived.RangeFuncLeaves
import Derived.Shelf.Abstract
import Derived.Shelf.RegionOpen
import Derived.OwnWalkIn
import Derived.TacticsInMore
import Derived.LoopNIn
import Derived.LoopIn
import Derived.Deep.OwnRows
import Derived.Deep.RegionHeld3
import Derived.Deep.DeepCutAuto
import Derived.Deep.CutBlock
import Derived.Laws.CopyOwn
set_option linter.unusedVariables false
set_option linter.unusedSimpArgs false
namespace Go.Proofs.Ytejpcgoblgaieaa
open Go.RowKit

/-- Behind a call: the streams are as they were, no block is gone, and what lay outside S lies as it lay. -/
structure Upd (S : Nat → Prop) (w w' : World) : Prop where
  os : w'.os = w.os
  tape : w'.tape = w.tape
  output : w'.output = w.output
  size : w.heap.size ≤ w'.heap.size
  block : ∀ k, k < w.heap.size → ¬ S k → w'.heap[k]? = w.heap[k]?

/-- No block. -/
def noB : Nat → Prop := fun _ => False
/-- One block. -/
def oneB (g : Nat) : Nat → Prop := fun k => k = g

theorem Upd.refl (S : Nat → Prop) (w : World) : Upd S w w := ⟨rfl, rfl, rfl, Nat.le_refl _, fun _ _ _ => rfl⟩
theorem Upd.mono {S S' : Nat → Prop} {w w' : World} (h : Upd S w w') (hs : ∀ k, S k → S' k) : Upd S' w w' :=
  ⟨h.os, h.tape, h.output, h.size, fun k hk hn => h.block k hk (fun x => hn (hs k x))⟩
theorem Upd.trans {S S' : Nat → Prop} {a b c : World} (h : Upd S a b) (k : Upd S' b c) (hs : ∀ i, S' i → S i ∨ a.heap.size ≤ i) : Upd S a c :=
  ⟨k.os.trans h.os, k.tape.trans h.tape, k.output.trans h.output, Nat.le_trans h.size k.size, fun i hi hn =>
    (k.block i (Nat.lt_of_lt_of_le hi h.size) (fun x => (hs i x).elim hn (fun e => by omega))).trans (h.block i hi hn)⟩
theorem Upd.then {S : Nat → Prop} {a b c : World} (h : Upd S a b) (k : Upd S b c) : Upd S a c := h.trans k (fun _ x => .inl x)
theorem Upd.then0 {S : Nat → Prop} {a b c : World} (h : Upd S a b) (k : Upd noB b c) : Upd S a c := h.trans k (fun _ x => x.elim)
theorem Upd.drewN {S : Nat → Prop} {a w : World} (h : Upd S a w) (n : Nat) : Upd S a (w.drewN n) := ⟨h.os, h.tape, h.output, h.size, h.block⟩
theorem Upd.drew {S : Nat → Prop} {a w : World} (h : Upd S a w) : Upd S a w.drew := ⟨h.os, h.tape, h.output, h.size, h.block⟩
theorem Upd.alloc {S : Nat → Prop} {a w : World} (h : Upd S a w) (o : Obj) : Upd S a (w.alloc o) :=
  h.then0 ⟨rfl, rfl, rfl, by simp, fun k hk _ => Below.heap_alloc w o k hk⟩
theorem Upd.setCell {S : Nat → Prop} {a w : World} (h : Upd S a w) {p : Addr} (hp : S p.block ∨ a.heap.size ≤ p.block) (u : Value) : Upd S a (w.setCell p u) :=
  h.trans (S' := oneB p.block) ⟨rfl, rfl, rfl, by simp [World.setCell], fun k _ hn => Below.heap_setCell w p u k hn⟩ (fun i e => by cases e; exact hp)
theorem Upd.grown {S : Nat → Prop} {a w w' : World} {row : Option Nat} (h : Upd S a w) (hg : w.grownBy w' row) (hr : ∀ k, row = some k → S k ∨ a.heap.size ≤ k) : Upd S a w' :=
  h.trans (S' := fun k => row = some k) ⟨hg.os, hg.tape, hg.output, hg.size, fun k hk hn => hg.block k hk (fun e => hn e.symm)⟩ (fun i e => hr i e)
theorem Upd.of_below {S : Nat → Prop} {w w' : World} (h : Below w.heap.size w w') : Upd S w w' := ⟨h.os, h.tape, h.output, h.size, fun k hk _ => h.block k hk⟩
theorem Upd.below {S : Nat → Prop} {w w' : World} (h : Upd S w w') {B : Nat} (hB : B ≤ w.heap.size) (hS : ∀ k, S k → B ≤ k) : Below B w w' :=
  ⟨h.os, h.tape, h.output, h.size, fun k hk => h.block k (by omega) (fun x => by have := hS k x; omega)⟩
theorem Upd.below0 {w w' : World} (h : Upd noB w w') : Below w.heap.size w w' := h.below (Nat.le_refl _) (fun _ x => x.elim)
/-- To see a call from an elder world: what it wrote is new since. -/
theorem Upd.from0 {S : Nat → Prop} {a b c : World} (h : Upd noB a b) (k : Upd S b c) (hs : ∀ i, S i → a.heap.size ≤ i) : Upd noB a c := h.trans k (fun i x => .inr (hs i x))
theorem Upd.grownBy {w w' : World} (h : Upd noB w w') (row : Option Nat) : w.grownBy w' row := ⟨h.os, h.tape, h.output, h.size, fun k hk _ => h.block k hk (fun x => x)⟩
theorem Upd.grownBy1 {g : Nat} {w w' : World} (h : Upd (oneB g) w w') : w.grownBy w' (some g) := ⟨h.os, h.tape, h.output, h.size, fun k hk hn => h.block k hk (fun x => hn (by rw [x]))⟩

theorem lt_of_block {w : World} {k : Nat} {o : Obj} (h : w.heap[k]? = some o) : k < w.heap.size := (Array.getElem?_eq_some_iff.1 h).1
theorem Upd.at {S : Nat → Prop} {w w' : World} (h : Upd S w w') {k : Nat} {o : Obj} (hk : w.heap[k]? = some o) (hn : ¬ S k) : w'.heap[k]? = some o := (h.block k (lt_of_block hk) hn).trans hk
theorem Upd.cell {S : Nat → Prop} {w w' : World} (h : Upd S w w') {a : Addr} {v : Value} (hc : w.cell? a = some v) (hn : ¬ S a.block) : w'.cell? a = some v :=
  (World.cell?_of_block (h.block a.block (World.block_lt_of_cell? w a hc) hn)).trans hc
theorem Upd.frozen {S : Nat → Prop} {w w' : World} (h : Upd S w w') {a : Addr} (ha : a.block < w.heap.size) (hn : ¬ S a.block) : w'.frozen? a = w.frozen? a :=
  World.frozen?_of_block (h.block a.block ha hn)
/-- A row of the call's own lives on where its block isn't written. -/
theorem ownsRow_upd {S : Nat → Prop} {w w' : World} {base : Nat} {e : TypeId} {size : Nat} {v : Value} {n : Nat} {xs : List Value} (h : w.ownsRow base e size v n xs) (hu : Upd S w w') (hn : ∀ k, v.ownBlock = some k → ¬ S k) : w'.ownsRow base e size v n xs := by
  refine ⟨h.1, ?_⟩
  rcases h.2 with h2 | ⟨g, cap, cur, rfl, hb, hg, rest⟩
  · exact .inl h2
  · exact .inr ⟨g, cap, cur, rfl, hb, hu.at hg (hn g rfl), rest⟩
theorem ownsRow_lt {w : World} {base : Nat} {e : TypeId} {size : Nat} {v : Value} {n : Nat} {xs : List Value} (h : w.ownsRow base e size v n xs) : ∀ k, v.ownBlock = some k → k < w.heap.size := fun k hk => (h.lt k hk).2

theorem add0 (g j : Nat) : (⟨g, 0, none⟩ : Addr).add j = ⟨g, j, none⟩ := by unfold Addr.add; split <;> simp_all
/-- A cell of a block that is known whole. -/
theorem cell_at {w : World} {p : Nat} {cs : Array Value} {t : TypeId} {fz : Nat × Nat} (h : w.heap[p]? = some (.cells cs t fz)) (j : Nat) : w.cell? ⟨p, j, none⟩ = cs[j]? := by simp [World.cell?, h]
theorem frozen_at {w : World} {p : Nat} {cs : Array Value} {t : TypeId} (h : w.heap[p]? = some (.cells cs t (0, 0))) (j : Nat) : w.frozen? ⟨p, j, none⟩ = false := by simp [World.frozen?, h]
theorem setCell_at {w : World} {p j : Nat} {u : Value} {cs : Array Value} {t : TypeId} {fz : Nat × Nat} (h : w.heap[p]? = some (.cells cs t fz)) : (w.setCell ⟨p, j, none⟩ u).heap[p]? = some (.cells (cs.setIfInBounds j u) t fz) := by
  obtain ⟨hlt, hk⟩ := Array.getElem?_eq_some_iff.1 h
  show (w.heap.modify p _)[p]? = _
  rw [Array.getElem?_modify]; simp [h]

/-- 'make([]T, x)', x a sum that is m. -/
theorem make_run {P : Program} (t e : TypeId) (z : Value) (bytes : Nat) (ht : P.underlying t = some (.slice e)) (hinfo : (P.info? e).map (fun i => (i.zero, i.size, i.bytes)) = some (some z, 1, bytes)) (hz1 : z.cells = #[z])
    (x : Int) (m : Nat) (hx : x = m) (hbytes : bytes * m ≤ 281474976710656) (h63 : m ≤ 9223372036854775807) :
    ∀ w : World, (Instr.makeSlice t (.int .i64 x) (.int .i64 x)).run P w = .ok (.slice (some ⟨w.heap.size, 0, none⟩) m m) (w.alloc (.cells (madeCells #[z] m) e)) := by
  intro w; subst hx; exact run_make_row' t e z bytes ht hinfo hz1 .i64 .i64 m hbytes h63 w
theorem madeCells_toList (z : Value) (m : Nat) : (madeCells #[z] m).toList = List.replicate m z := by
  apply List.ext_getElem
  · simp [madeCells]
  · intro i h1 h2; simp [madeCells, Nat.mod_one]
theorem ownsRow_made (w : World) (e : TypeId) (z : Value) (m : Nat) (hm : m ≤ 9223372036854775807) :
    (w.alloc (.cells (madeCells #[z] m) e)).ownsRow 0 e 1 (.slice (some ⟨w.heap.size, 0, none⟩) m m) m (List.replicate m z) := by
  have h := World.ownsRow_lit (base := 0) (e := e) (size := 1) w (madeCells #[z] m) m (Nat.zero_le _) (by simpa [maxLen] using hm) (by simp [size_madeCells])
  rwa [madeCells_toList] at h
/-- Blocks of cells of F lie as they lay: what an iterator asks of a loop's body. -/
def KeepB (F : List Nat) (A B : World) : Prop := ∀ k ∈ F, ∀ c t z, A.heap[k]? = some (.cells c t z) → B.heap[k]? = some (.cells c t z)
theorem KeepB.refl (F : List Nat) (A : World) : KeepB F A A := fun _ _ _ _ _ h => h
theorem KeepB.trans {F : List Nat} {A B C : World} (h : KeepB F A B) (k : KeepB F B C) : KeepB F A C := fun i hi c t z x => k i hi c t z (h i hi c t z x)
theorem KeepB.putObj {F : List Nat} (B : Nat) (W : World) (l : Nat) (o o' : Obj) (_ : B ≤ l) (h : W.heap[l]? = some o) (hc : o.isCells = false) (_ : o.isWalk = false) : KeepB F W (W.putObj l o') := by
  intro k _ c t z hk
  have hne : k ≠ l := by rintro rfl; rw [hk] at h; cases h; cases hc
  rw [World.putObj_heap_other hne]; exact hk
theorem KeepB.upd {F : List Nat} {S : Nat → Prop} {A B : World} (h : Upd S A B) (hF : ∀ k ∈ F, ¬ S k) : KeepB F A B := fun k hk c t z x => h.at x (hF k hk)
theorem KeepB.cell {F : List Nat} {A B : World} (h : KeepB F A B) {a : Addr} {v : Value} (hc : A.cell? a = some v) (ha : a.block ∈ F) : B.cell? a = some v := by
  unfold World.cell? at hc
  cases ho : A.heap[a.block]? with
  | none => simp [ho] at hc
  | some o =>
    cases o with
    | cells c t z => simp only [ho] at hc; simp only [World.cell?, h a.block ha c t z ho]; exact hc
    | _ => simp [ho] at hc
theorem ownsRow_keepB {F : List Nat} {w w' : World} {base : Nat} {e : TypeId} {size : Nat} {v : Value} {n : Nat} {xs : List Value} (h : w.ownsRow base e size v n xs) (hu : KeepB F w w') (hn : ∀ k, v.ownBlock = some k → k ∈ F) : w'.ownsRow base e size v n xs := by
  refine ⟨h.1, ?_⟩
  rcases h.2 with h2 | ⟨g, cap, cur, rfl, hb, hg, rest⟩
  · exact .inl h2
  · exact .inr ⟨g, cap, cur, rfl, hb, hu g (hn g rfl) _ _ _ hg, rest⟩
/-- All blocks of cells lie as they lay. -/
def KeepA (A B : World) : Prop := ∀ (k : Nat) (c : Array Value) (t : TypeId) (z : Nat × Nat), A.heap[k]? = some (.cells c t z) → B.heap[k]? = some (.cells c t z)
theorem KeepA.to {A B : World} (h : KeepA A B) (F : List Nat) : KeepB F A B := fun k _ c t z x => h k c t z x
theorem keepA_row {A B : World} {row : Option Nat} {N : Nat} (hg : A.grownBy B row) (hr : ∀ r, row = some r → N ≤ r ∧ ∃ o : Obj, A.heap[r]? = some o ∧ o.isCells = false) : KeepA A B := by
  intro k c t z hk
  refine (hg.block k (lt_of_block hk) ?_).trans hk
  intro e
  obtain ⟨_, o, ho, hc⟩ := hr k e.symm
  rw [hk] at ho; cases ho; cases hc
theorem upd_row {S : Nat → Prop} {w A B : World} {row : Option Nat} {N : Nat} (h : Upd S w A) (hN : w.heap.size ≤ N) (hg : A.grownBy B row) (hr : ∀ r, row = some r → N ≤ r ∧ ∃ o : Obj, A.heap[r]? = some o ∧ o.isCells = false) : Upd S w B :=
  h.grown hg (fun k e => .inr (Nat.le_trans hN (hr k e).1))
theorem keepsFrom_upd {S : Nat → Prop} {A B : World} {N : Nat} (h : Upd S A B) (hs : ∀ k, S k → k < N ∨ ∃ c t z, A.heap[k]? = some (.cells c t z)) : KeepsFrom N A B := by
  refine ⟨h.size, fun k o hN hk hc => h.at hk (fun x => ?_)⟩
  rcases hs k x with h1 | ⟨c, t, z, h1⟩
  · omega
  · rw [hk] at h1; cases h1; cases hc
/-- A measure for a loop whose counter is a number, or -1 at its end. -/
def msr (n : Nat) (v : Value) : Nat := if intOf v < 0 then 0 else n + 1 - (intOf v).toNat
theorem msr_neg (n : Nat) (k : IntKind) : msr n (.int k (-1)) = 0 := rfl
theorem msr_nat (n : Nat) (k : IntKind) (m : Nat) : msr n (.int k (m : Int)) = n + 1 - m := by
  have h : ¬ intOf (.int k (m : Int)) < 0 := by show ¬ ((m : Int) < 0); omega
  unfold msr; rw [if_neg h]; show n + 1 - (m : Int).toNat = _; omega
/-- 'nil == p'. -/
theorem run_eql_nil_ptr {P : Program} (w : World) {tp te : TypeId} (b : Option Addr) (hp : P.underlying tp = some (.pointer te)) : (binOp .eql tp (.pointer none) (.pointer b)).run P w = .ok (.bool b.isNone) w := by
  have h : ∀ d : Nat, (Op.equalIn (d + 1) tp (.pointer none) (.pointer b)).run P w = .ok b.isNone w := fun d => by
    simp [Op.equalIn, run_underlying hp]
  simp only [binOp]
  simp [Op.equal, Op.maxDepth, h 9999]
theorem upd_setRow (w : World) (g : Nat) (cs : Array Value) : Upd (oneB g) w (w.setRow g cs) := ⟨rfl, rfl, rfl, by simp [World.setRow], fun k _ hk => setRow_other w g k cs hk⟩
/-- 'copy(d, s)', d a row whose block is known whole: that block alone is written. -/
theorem wpList_copy_upd {P : Program} {w : World} {ops : Array Oper} {rest : List Oper} {o : Oper} {a : Act} {Q : Exit → Act → World → Prop} (hgd : o.guard = none) (d s : Operand) (dT sT : TypeId)
    (ho : o.op = .call { callee := .builtin .copy, args := #[d, s], argTypes := #[dT, sT] }) (elem : TypeId) (hu : P.underlying dT = some (.slice elem)) (hsz : (P.info? elem).map (·.size) = some 1)
    (dp sp : Option Addr) (dLen dCap sLen sCap : Nat) (hd : a.eval d = .slice dp dLen dCap) (hs : a.eval s = .slice sp sLen sCap)
    (g off : Nat) (cur : List Value) (t : TypeId) (hg : w.heap[g]? = some (.cells cur.toArray t (0, 0))) (cs : List Value) (hn : cs.length = Nat.min sLen dLen)
    (hpos : 0 < cs.length → dp = some ⟨g, off, none⟩ ∧ ∃ ad, sp = some ad ∧ ∀ j v, cs[j]? = some v → w.cell? (ad.add j) = some v)
    (hfit : off + cs.length ≤ cur.length) (h1 : ∀ v ∈ cs, v.oneCell' = true)
    (h : ∀ w', Hid (w'.heap[g]? = some (.cells (splice cur off cs).toArray t (0, 0))) → Upd (oneB g) w w' → wpList P ops Q rest (a.put o.dst (goInt cs.length)) w') :
    wpList P ops Q (o :: rest) a w := by
  by_cases h0 : cs.length = 0
  · obtain rfl : cs = [] := List.eq_nil_of_length_eq_zero h0
    refine wpList_copy_nothing hgd d s dT sT ho elem hu hsz dp sp dLen dCap sLen sCap hd hs (by simpa using hn.symm) ?_
    exact h w (show _ = _ by simpa [splice] using hg) (Upd.refl _ _)
  · obtain ⟨rfl, ad, rfl, hsrc⟩ := hpos (by omega)
    refine wpList_copy_own hgd d s dT sT ho elem hu hsz g off dLen dCap ad sLen sCap hd hs cur.toArray t hg cs hn hsrc (by simpa using hfit) h1 ?_
    exact h _ (show _ = _ by simpa [splice] using setRow_heap w g _ _ t _ hg) (upd_setRow w g _)
theorem heap_new2 (w : World) (o o' : Obj) : ((w.alloc o).alloc o').heap[w.heap.size + 1]? = some o' := by
  have := heap_alloc_new (w.alloc o) o'; rwa [World.size_alloc] at this
theorem heap_old (w : World) (o : Obj) {k : Nat} {x : Obj} (h : w.heap[k]? = some x) : (w.alloc o).heap[k]? = some x := (Below.heap_alloc w o k (lt_of_block h)).trans h
/-- What the loop's variables are handed. -/
theorem zip_one (p : Tmp) (v : Value) (t : Array Value) : (#[p].zip #[v]).foldl (fun t (p, v) => t.setIfInBounds p v) t = t.setIfInBounds p v := by simp
theorem zip_two (p q : Tmp) (v u : Value) (t : Array Value) : (#[p, q].zip #[v, u]).foldl (fun t (p, v) => t.setIfInBounds p v) t = (t.setIfInBounds p v).setIfInBounds q u := by simp
theorem wideD {n : Nat} : Fence.wide.depth.isSome = true → 1 ≤ n := fun h => by cases h
theorem wideR {l n : Nat} : (Fence.wide.inRound l).depth.isSome = true → 1 ≤ n := fun h => by cases h
/-- A plain contract, at the wide fence, and in a loop's round. -/
theorem Calls.wide {P : Program} {f : FuncId} {args : Array Value} {w : World} {R : Ending → World → Prop} (n : Nat) (h : Calls P f args w R) : CallsIn Fence.wide n P f args w R := callsIn_wide.2 h
theorem Calls.round {P : Program} {f : FuncId} {args : Array Value} {w : World} {R : Ending → World → Prop} (n l : Nat) (h : Calls P f args w R) : CallsIn (Fence.wide.inRound l) n P f args w R := CallsIn.inRound l (callsIn_wide.2 h)
theorem ret_bool {a b : Bool} (h : a = b) : Ending.returned (.bool a) = .returned (.bool b) := by rw [h]
theorem ret_int {k : IntKind} {a b : Int} (h : a = b) : Ending.returned (.int k a) = .returned (.int k b) := by rw [h]
theorem ret_str {a b : ByteArray} (h : a = b) : Ending.returned (.string a) = .returned (.string b) := by rw [h]
end Go.Proofs.Ytejpcgoblgaieaa
