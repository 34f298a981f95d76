/- Short words for the steps that a printed walk says often: each is a lemma of the kit whose side condition a search fills. No condition. -/
import Derived.Test.YtlkbphhmahipdaaPk0
namespace Go.Proofs.Ytlkbphhmahipdaa.P
open Go.RowKit Go.Proofs.YtlkbphhmahipdaaW.PrintWords Go.Proofs.YtlkbphhmahipdaaW.PrintLast Go.Proofs.YtlkbphhmahipdaaW.PrintMore
set_option linter.unusedVariables false
section
variable {w w0 w1 w2 : World} {g g' : Nat} {o : Obj}
theorem kC (h : w1.heap[g]? = some o := by (with_reducible repeat (first | refine blk_drewN ?_ _ | refine blk_drew ?_ | refine blk_alloc ?_ _ | refine blk_far ?_ (Aside0.out (by assumption)) _)); exact Aside0.out (by assumption)) : w1.heap[g]? = some o := h
theorem kA (h : w1.heap[g]? = some o := by exact kC) : Aside0 (w1.heap[g]? = some o) := ⟨h⟩
theorem kB (B : Aside0 (w0.heap[g]? = some o)) (hb : Below w1.heap.size w1 w2) (h : w1.heap[g]? = some o := by exact kC) : Aside0 (w2.heap[g]? = some o) := ⟨blk_below h hb⟩
theorem kO (h : Below w.heap.size w w1 := by repeat (first | (with_reducible first | exact Aside0.out (by assumption) | apply below_alloc | apply pw_below_drewN | apply below_drew1 | refine below_set ?_ (Aside0.out (by assumption))) | exact Aside0.out (by assumption))) : Below w.heap.size w w1 := h
theorem kI (h : Below w.heap.size w w1 := by exact kO) : Aside0 (Below w.heap.size w w1) := ⟨h⟩
theorem kH (B : Aside0 (Below w.heap.size w w0)) (hb : Below w1.heap.size w1 w2) (h : Below w.heap.size w w1 := by exact kO) : Aside0 (Below w.heap.size w w2) := ⟨below_step h hb⟩
theorem kG (B : Aside0 (Below w.heap.size w w0)) (hg : g = w1.heap.size) (h : Below w.heap.size w w1 := by exact kO) : Aside0 (w.heap.size ≤ g) := ⟨by rw [hg]; exact below_size h⟩
theorem kL (B : Aside0 (w0.heap[g]? = some o)) (hg : g' = w1.heap.size) (h : w1.heap[g]? = some o := by exact kC) : Aside0 (g ≠ g') := ⟨by rw [hg]; exact Nat.ne_of_lt (blk_lt h)⟩
theorem kR (B : Aside0 (w0.heap[g]? = some o)) (hg : g' = w1.heap.size) (h : w1.heap[g]? = some o := by exact kC) : Aside0 (g' ≠ g) := ⟨by rw [hg]; exact Nat.ne_of_gt (blk_lt h)⟩
end
theorem kE {P : Program} {ops : Array Oper} {Q : Exit → Act → World → Prop} {rest : List Oper} {oi : Oper} {a : Act} {w : World} (N : Option Tmp) {f : FuncId} {fn : Func} {xs : Array Operand} {ts : Array TypeId} (hf : P.funcs[f]? = some fn) (args : Array Value)
    (hop : oi.op = .call { callee := .value (.func f), args := xs, argTypes := ts }) (h : Calls P f args w fun e w' => ∃ v, e = .returned v ∧ wpList P ops Q rest (a.put N v) w')
    (hd : oi.dst = N := by rfl) (hg : oi.guard = none := by rfl) (hname : (fn.name == "runtime.NumGoroutine") = false := by kernel_rfl) (hb : fn.body.isSome = true := by rfl)
    (hargs : xs.map a.eval = args := by (try simp only [List.map_toArray, List.map_cons, List.map_nil]); first | done | rfl | (simp only [List.length_drop, List.length_take]; rfl)) : wpList P ops Q (oi :: rest) a w := goesL_ N hd hg hf hname hb args hop hargs h
end Go.Proofs.Ytlkbphhmahipdaa.P
