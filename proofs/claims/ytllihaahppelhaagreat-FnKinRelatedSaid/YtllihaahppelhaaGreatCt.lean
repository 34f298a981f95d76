/- Short words for the steps that a printed walk says often: each is a lemma of the kit whose side condition a search fills. No condition. -/
import Derived.Test.YtllihaahppelhaaGreatPx0
namespace Go.Proofs.YtllihaahppelhaaGreat.P
open Go.RowKit Go.Proofs.YtllihaahppelhaaGreatW.PrintWords Go.Proofs.YtllihaahppelhaaGreatW.PrintLast Go.Proofs.YtllihaahppelhaaGreatW.PrintMore
set_option linter.unusedVariables false
section
variable {w w0 w1 w2 : World} {g g' : Nat} {o : Obj}
theorem kC (h : w1.heap[g]? = some o := by (with_reducible repeat (first | refine blk_drewN ?_ _ | refine blk_drew ?_ | refine blk_alloc ?_ _ | refine blk_far ?_ (Aside0.out (by assumption)) _)); exact Aside0.out (by assumption)) : w1.heap[g]? = some o := h
theorem kA (h : w1.heap[g]? = some o := by exact kC) : Aside0 (w1.heap[g]? = some o) := ⟨h⟩
theorem kB (B : Aside0 (w0.heap[g]? = some o)) (hb : Below w1.heap.size w1 w2) (h : w1.heap[g]? = some o := by exact kC) : Aside0 (w2.heap[g]? = some o) := ⟨blk_below h hb⟩
theorem kO (h : Below w.heap.size w w1 := by repeat (first | (with_reducible first | exact Aside0.out (by assumption) | apply below_alloc | apply pw_below_drewN | apply below_drew1 | refine below_set ?_ (Aside0.out (by assumption))) | exact Aside0.out (by assumption))) : Below w.heap.size w w1 := h
theorem kI (h : Below w.heap.size w w1 := by exact kO) : Aside0 (Below w.heap.size w w1) := ⟨h⟩
theorem kH (B : Aside0 (Below w.heap.size w w0)) (hb : Below w1.heap.size w1 w2) (h : Below w.heap.size w w1 := by exact kO) : Aside0 (Below w.heap.size w w2) := ⟨below_step h hb⟩
theorem kG (B : Aside0 (Below w.heap.size w w0)) (hg : g = w1.heap.size) (h : Below w.heap.size w w1 := by exact kO) : Aside0 (w.heap.size ≤ g) := ⟨by rw [hg]; exact below_size h⟩
end
theorem kE {P : Program} {ops : Array Oper} {Q : Exit → Act → World → Prop} {rest : List Oper} {oi : Oper} {a : Act} {w : World} (N : Option Tmp) {f : FuncId} {fn : Func} {xs : Array Operand} {ts : Array TypeId} (hf : P.funcs[f]? = some fn) (args : Array Value)
    (hop : oi.op = .call { callee := .value (.func f), args := xs, argTypes := ts }) (h : Calls P f args w fun e w' => ∃ v, e = .returned v ∧ wpList P ops Q rest (a.put N v) w')
    (hd : oi.dst = N := by rfl) (hg : oi.guard = none := by rfl) (hname : (fn.name == "runtime.NumGoroutine") = false := by kernel_rfl) (hb : fn.body.isSome = true := by rfl)
    (hargs : xs.map a.eval = args := by (try simp only [List.map_toArray, List.map_cons, List.map_nil]); first | done | rfl | (simp only [List.length_drop, List.length_take]; rfl)) : wpList P ops Q (oi :: rest) a w := goesL_ N hd hg hf hname hb args hop hargs h
theorem kZ {p : Prop} (h : p := by first | rfl | (simp [errW_none, errW_some] <;> rfl) | (simp [*, errW_none, errW_some] <;> rfl)) : p := h
theorem kY {p : Prop} (h : p := by first | rfl | (simp; done) | (simp [*]; done)) : p := h
section
variable {α : Type} {K : Kd α} {w w0 w1 : World} {A : Option Addr} {n : Nat} {xs : List α}
theorem kD (H : Aside0 (Kd.C K w0 A n xs)) (h : Kd.C K w0 A n xs → Kd.C K w1 A n xs := by intro h0; repeat (first | exact h0 | (with_reducible refine Kd.C_alloc ?_ _) | (with_reducible refine Kd.C_drewN ?_ _) | (with_reducible refine Kd.C_drew ?_))) : Kd.C K w1 A n xs := h H.out
theorem kDo {t : TypeId} {b c n : Nat} {ok : Nat → Prop} (H : Aside0 (Kd.R K t w0 b ok (.slice A n c) xs)) (h : Kd.C K w0 A xs.length xs → Kd.C K w1 A xs.length xs := by intro h0; repeat (first | exact h0 | (with_reducible refine Kd.C_alloc ?_ _) | (with_reducible refine Kd.C_drewN ?_ _) | (with_reducible refine Kd.C_drew ?_))) : Kd.C K w1 A xs.length xs := h (Kd.R_reads' H.out).2.2
theorem kW {t : TypeId} {b : Nat} {ok : Nat → Prop} {v : Value} (H : Aside0 (Kd.R K t w0 b ok v xs)) (h : Kd.R K t w0 b ok v xs → Kd.R K t w1 b ok v xs := by intro h0; (with_reducible repeat (first | apply Kd.R_alloc | apply Kd.R_drewN | apply Kd.R_drew)); exact h0) : Kd.R K t w1 b ok v xs := h H.out
theorem kDb (H : Aside0 (Kd.C K w0 A n xs)) (hb : Below w0.heap.size w0 w1 := by exact kO) : Kd.C K w1 A n xs := Kd.C_below H.out hb
end
end Go.Proofs.YtllihaahppelhaaGreat.P
