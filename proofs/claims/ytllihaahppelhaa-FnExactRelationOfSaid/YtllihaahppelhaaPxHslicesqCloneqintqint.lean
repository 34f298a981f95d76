/- Calls of the functions of the given program return what the plain Lean functions of the same names return; and a row of a law out of its pure statement. Written by a program of this session out of the translation; Lean checks it. No condition. -/
import Derived.Test.YtllihaahppelhaaPx0
import Derived.Test.YtllihaahppelhaaHlp
import Derived.WalkSpells
namespace Go.Proofs.Ytllihaahppelhaa.P
open Go.RowKit Go.Proofs.YtllihaahppelhaaW.PrintWords Go.Proofs.YtllihaahppelhaaW.PrintLast Go.Proofs.YtllihaahppelhaaW.PrintMore
attribute [local go_sem] max2_int min2_int max_two min_two max_three min_three max_four min_four   -- for this text's walks alone
set_option linter.unusedVariables false
set_option linter.unusedSimpArgs false

/-! ### slices_Clone_int_int: function 89, by hand -/
-- IMPORT Derived.Test.YtllihaahppelhaaHlp
-- IMPORT Derived.WalkSpells
def slices_Clone_int_int.f (l0 : List Int) : Option (List Int) := if l0.length < 17592186044416 then some l0 else none
set_option maxHeartbeats 2000000 in
theorem slices_Clone_int_int.calls (A0 : Option Addr) (c0 : Nat) (l0 : List Int) (r : List Int) (w : World) (hr0 : Kd.C (Kd.int .i64) w A0 l0.length l0) (hc0 : l0.length ≤ c0) (h : slices_Clone_int_int.f l0 = some r) :
    Calls Try.prog 89 #[.slice A0 l0.length c0] w fun e w' => ∃ v0_ : Value, e = .returned v0_ ∧ Kd.R (Kd.int .i64) 3 w' w.heap.size (fun _ => True) v0_ r ∧ Below w.heap.size w w' := by
  have hlt : l0.length < 17592186044416 := by
    unfold slices_Clone_int_int.f at h
    split at h
    · assumption
    · cases h
  obtain rfl : l0 = r := by unfold slices_Clone_int_int.f at h; rw [if_pos hlt] at h; exact Option.some.inj h
  have qT : ∀ (w : World) (a : Option Addr) (n c n' c' : Nat), (binOp .eql 37 (.slice a n c) (.slice none n' c')).run Try.prog w = .ok (.bool a.isNone) w := fun w a n c n' c' => Lib.run_eql_slice_nil w _ _ a n c n' c' Try.underlying37
  rcases A0 with _ | ad
  · have h0 : l0.length = 0 := by
      rcases Nat.eq_zero_or_pos l0.length with h1 | h1
      · exact h1
      · obtain ⟨_, h2, _⟩ := hr0.2.2 h1
        cases h2
    obtain rfl : l0 = [] := List.eq_nil_of_length_eq_zero h0
    clear hr0 hlt h h0
    go_enter Try.func89, Try.ntmps89
    go_wp2
    go_ret
    exact ⟨_, rfl, Kd.R_nil _ _ _ _ _, Below.refl _ _⟩
  · have hr : ReadsInt (w.alloc (.cells #[] 3)) .i64 (some ad) l0.length l0 := ReadsInt.below (Kd.reads_of_C (enc := Value.int .i64) (d := (0 : Int)) (h1 := fun _ => rfl) hr0) (below_alloc (Below.refl _ _) _)
    have ho : (w.alloc (.cells #[] 3)).ownsRow w.heap.size 3 1 (.slice (some ⟨w.heap.size, 0, none⟩) 0 0) ([] : List Int).length (nums .i64 []) := by
      have := own_lit w w.heap.size 3 .i64 [] (Nat.le_refl _) (by simp)
      simpa [nums] using this
    have HR : Aside0 _ := ⟨hr⟩
    have HO : Aside0 _ := ⟨ho⟩
    have LM : Aside0 _ := ⟨hlt⟩
    clear hr ho hr0 h hlt
    go_enter Try.func89, Try.ntmps89
    go_wp2_with (at_builtin; refine print_append_row (w0 := w) w.heap.size rfl _ _ 37 3 .i64 8 rfl Try.underlying37 info3 (by decide) _ [] l0 _ _ _ rfl rfl HO.out HR.out ((Below.refl _ w).alloc (Nat.le_refl _) _) (by simp) (by have := LM.out; simp only [List.length_nil]; omega) ?_; intro v1 w1 hown1 hb1 _ _; have HO1 : Aside0 _ := ⟨hown1⟩; have HB1 : Aside0 _ := ⟨hb1⟩; clear hown1 hb1)
    go_ret
    have := HO1.out
    rw [List.nil_append] at this
    exact ⟨_, rfl, Kd.R_of_own this (fun _ _ => trivial), HB1.out⟩

end Go.Proofs.Ytllihaahppelhaa.P
