/- Calls of the functions of the given program return what the plain Lean functions of the same names return; and a row of a law out of its pure statement. Written by a program of this session out of the translation; Lean checks it. No condition. -/
import Derived.Test.YtllihaahppelhaaDoorPx0
import Derived.Test.YtllihaahppelhaaDoorPxHslicesqDeleteFuncqintqint
import Derived.Test.YtllihaahppelhaaDoorHlp
namespace Go.Proofs.YtllihaahppelhaaDoor.P
open Go.RowKit Go.Proofs.YtllihaahppelhaaDoorW.PrintWords Go.Proofs.YtllihaahppelhaaDoorW.PrintLast Go.Proofs.YtllihaahppelhaaDoorW.PrintMore
attribute [local go_sem] max2_int min2_int max_two min_two max_three min_three max_four min_four   -- for this text's walks alone
set_option linter.unusedVariables false
set_option linter.unusedSimpArgs false

/-! ### impl_Kin_parents: function 29, by hand -/
-- IMPORT Derived.Test.YtllihaahppelhaaDoorHlp
def impl_Kin_parents.f (a0_0 a0_1 a0_2 : Int) : Option (List Int) := some ([a0_1, a0_2].filter fun x => !decide (x < 0))
theorem impl_Kin_parents.clo (x : Int) (W : World) : Calls Tryd.prog 36 #[.int .i64 x] W fun e w' => e = .returned (.bool (decide (x < 0))) ∧ Below W.heap.size W w' := by
  go_enter Tryd.func36, Tryd.ntmps36
  go_wp2
  go_ret
  exact ⟨rfl, Below.refl _ _⟩
set_option maxHeartbeats 2000000 in
theorem impl_Kin_parents.calls (a0_0 a0_1 a0_2 : Int) (r : List Int) (w : World) (h : impl_Kin_parents.f a0_0 a0_1 a0_2 = some r) :
    Calls Tryd.prog 29 #[.agg #[.int .i64 a0_0, .int .i64 a0_1, .int .i64 a0_2]] w fun e w' => ∃ v0_ : Value, e = .returned v0_ ∧ Kd.R (Kd.int .i64) 3 w' w.heap.size (fun _ => True) v0_ r ∧ Below w.heap.size w w' := by
  obtain rfl : [a0_1, a0_2].filter (fun x => !decide (x < 0)) = r := Option.some.inj h
  have eg : ∀ args w, (callFunc 36 args).run Tryd.prog w = .ok (.enter 36 args) w := enters_of Tryd.func36 (by kernel_rfl) rfl
  have hb1 : Below w.heap.size w ((w.alloc (.cells #[.int .i64 a0_0, .int .i64 a0_1, .int .i64 a0_2] 37)).alloc (.cells #[.int .i64 a0_1, .int .i64 a0_2] 3)) := ((Below.refl _ w).alloc (Nat.le_refl _) _).alloc (by simp) _
  have hown := own_lit (w.alloc (.cells #[.int .i64 a0_0, .int .i64 a0_1, .int .i64 a0_2] 37)) w.heap.size 3 .i64 [a0_1, a0_2] (by simp) (by simp)
  have hcon := slices_DeleteFunc_int_int.any (fun x => decide (x < 0)) 36 #[] eg w.heap.size (w.heap.size + 1) 2 [a0_1, a0_2] ((w.alloc (.cells #[.int .i64 a0_0, .int .i64 a0_1, .int .i64 a0_2] 37)).alloc (.cells #[.int .i64 a0_1, .int .i64 a0_2] 3)) (by simpa [nums] using hown) (fun x _ W _ => impl_Kin_parents.clo x W)
  generalize [a0_1, a0_2].filter (fun x => !decide (x < 0)) = r at hcon ⊢
  have HC : Aside0 _ := ⟨hcon⟩
  have HB : Aside0 _ := ⟨hb1⟩
  clear hcon hb1 hown h
  go_enter Tryd.func29, Tryd.ntmps29
  go_wp2_with (go_at_call 35; refine HC.out.mono ?_; rintro e w' ⟨rfl, ho, hg⟩; have HO : Aside0 _ := ⟨ho⟩; have HG : Aside0 _ := ⟨hg⟩; clear ho hg)
  go_ret
  exact ⟨_, rfl, Kd.R_of_own HO.out (fun _ _ => trivial), HB.out.grown HG.out (by simp; omega) (by intro k hk; injection hk with hk; omega)⟩

end Go.Proofs.YtllihaahppelhaaDoor.P
