/- Calls of the functions of the given program return what the plain Lean functions of the same names return; and a row of a law out of its pure statement. Written by a program of this session out of the translation; Lean checks it. No condition. -/
import Derived.Test.YtooeliiolcolaaaPx0
import Derived.Test.YtooeliiolcolaaaHlp
import Derived.WalkSpells
namespace Go.Proofs.Ytooeliiolcolaaa.P
open Go.RowKit Go.Proofs.YtooeliiolcolaaaW.PrintWords Go.Proofs.YtooeliiolcolaaaW.PrintLast Go.Proofs.YtooeliiolcolaaaW.PrintMore
attribute [local go_sem] max2_int min2_int max_two min_two max_three min_three max_four min_four   -- for this text's walks alone
set_option linter.unusedVariables false
set_option linter.unusedSimpArgs false

/-! ### impl_Kin: function 59, by hand -/
-- IMPORT Derived.Test.YtooeliiolcolaaaHlp
-- IMPORT Derived.WalkSpells
def impl_Kin.f (l0 : List S36) : Option (List S36) := if l0.length < 5864062014805 then some l0 else none
set_option maxHeartbeats 2000000 in
theorem impl_Kin.calls (A0 : Option Addr) (c0 : Nat) (l0 : List S36) (r : List S36) (w : World) (hr0 : Kd.C k36 w A0 l0.length l0) (hc0 : l0.length ≤ c0) (h : impl_Kin.f l0 = some r) :
    Calls Try.prog 59 #[.slice A0 l0.length c0] w fun e w' => ∃ v0_ : Value, e = .returned v0_ ∧ Kd.R k36 36 w' w.heap.size (fun _ => True) v0_ r ∧ Below w.heap.size w w' := by
  have hlt : l0.length < 5864062014805 := by
    unfold impl_Kin.f at h
    split at h
    · assumption
    · cases h
  obtain rfl : l0 = r := by unfold impl_Kin.f at h; rw [if_pos hlt] at h; exact Option.some.inj h
  have qT : ∀ (w : World) (a : Option Addr) (n c n' c' : Nat), (binOp .eql 25 (.slice a n c) (.slice none n' c')).run Try.prog w = .ok (.bool a.isNone) w := fun w a n c n' c' => Lib.run_eql_slice_nil w _ _ a n c n' c' Try.underlying25
  rcases A0 with _ | ad
  · have h0 : l0.length = 0 := by
      rcases Nat.eq_zero_or_pos l0.length with h1 | h1
      · exact h1
      · obtain ⟨_, h2, _⟩ := hr0.2.2 h1
        cases h2
    obtain rfl : l0 = [] := List.eq_nil_of_length_eq_zero h0
    clear hr0 hlt h h0
    go_enter Try.func59, Try.ntmps59
    go_wp2
    go_ret
    exact ⟨_, rfl, Kd.R_nil _ _ _ _ _, Below.refl _ _⟩
  · have hr : Kd.C k36 (w.alloc (.cells #[] 36)) (some ad) l0.length l0 := Kd.C_below hr0 (below_alloc (Below.refl _ _) _)
    have ho : Kd.R k36 36 (w.alloc (.cells #[] 36)) w.heap.size (fun _ => True) (.slice (some ⟨w.heap.size, 0, none⟩) 0 0) [] :=
      ⟨fun _ _ => trivial, [], World.ownsRow_lit (base := w.heap.size) (e := 36) (size := 3) w #[] 0 (Nat.le_refl _) (by simp [maxLen]) (by simp), ⟨by simp, fun j p hj => by simp at hj⟩⟩
    have HR : Aside0 _ := ⟨hr⟩
    have HO : Aside0 _ := ⟨ho⟩
    have LM : Aside0 _ := ⟨hlt⟩
    have hKM : ∀ (x : S36) (cs : List Value), k36.K (w.alloc (.cells #[] 36)) x cs → k36.M (w.alloc (.cells #[] 36)) w.heap.size (fun _ => False) x cs := fun x cs hx => by
      obtain rfl := k36_open hx
      exact k36_mkM _ _ _ _
    have HK : Aside0 _ := ⟨hKM⟩
    clear hr ho hr0 h hlt hKM
    go_enter Try.func59, Try.ntmps59
    go_wp2_with (at_builtin; refine Kd.R_append_rows k36 (w0 := w) w.heap.size rfl _ _ 25 36 _ 24 rfl Try.underlying25 info36 rfl (by decide) (by decide) _ [] l0 _ _ _ (fun _ => True) (fun _ => False) rfl rfl HO.out HR.out HK.out (fun _ hk => hk.elim) (fun _ _ => trivial) ((Below.refl _ w).alloc (Nat.le_refl _) _) (by simp) (by have := LM.out; simp only [List.length_nil]; omega) ?_; intro v1 w1 hown1 hb1 _ _; have HO1 : Aside0 _ := ⟨hown1⟩; have HB1 : Aside0 _ := ⟨hb1⟩; clear hown1 hb1)
    go_ret
    have := HO1.out
    rw [List.nil_append] at this
    exact ⟨_, rfl, this, HB1.out⟩

end Go.Proofs.Ytooeliiolcolaaa.P
