/- Calls of the functions of the given program return what the plain Lean functions of the same names return; and a row of a law out of its pure statement. Written by a program of this session out of the translation; Lean checks it. No condition. -/
import Derived.Test.YtlkbphhmahipdaaPx0
import Derived.Test.YtlkbphhmahipdaaPxHimplqisTalk
import Derived.Test.YtlkbphhmahipdaaPx10
import Derived.Test.YtlkbphhmahipdaaPxHimplqleft
import Derived.Test.YtlkbphhmahipdaaPxHimplqisTrue
import Derived.Test.YtlkbphhmahipdaaTk
namespace Go.Proofs.Ytlkbphhmahipdaa.P
open Go.RowKit Go.Proofs.YtlkbphhmahipdaaW.PrintWords Go.Proofs.YtlkbphhmahipdaaW.PrintLast Go.Proofs.YtlkbphhmahipdaaW.PrintMore
attribute [local go_sem] max2_int min2_int max_two min_two max_three min_three max_four min_four   -- for this text's walks alone
set_option linter.unusedVariables false
set_option linter.unusedSimpArgs false

/-! ### impl_PairsLeft: function 14, by hand -/
-- IMPORT Derived.Test.YtlkbphhmahipdaaTk
/-- Are there a limit and a talk? -/
def impl_PairsLeft.ok (n : Int) (talk : ByteArray) : Bool := decide (2 ≤ n ∧ n ≤ 40) && impl_isTalk.ok talk
/-- The pairs that are left. -/
def impl_PairsLeft.rows (n : Int) (talk : ByteArray) : List (List Int) := if impl_PairsLeft.ok n talk = true then impl_isTrue.lft n talk else []
theorem impl_isMost.told (n : Int) : impl_isMost.f n = some (decide (2 ≤ n ∧ n ≤ 40)) := by
  unfold impl_isMost.f
  have h : impl_between.f n 2 40 = some (decide (2 ≤ n ∧ n ≤ 40)) := by
    unfold impl_between.f
    by_cases h1 : (2 : Int) ≤ n <;> by_cases h2 : n ≤ 40 <;> simp [h1, h2] <;> omega
  simp only [h, Option.bind_some]
set_option maxHeartbeats 4000000 in
set_option maxRecDepth 100000 in
theorem impl_PairsLeft.has (n : Int) (talk : ByteArray) (hs : talk.size ≤ 1048576) (w : World) :
    Calls Try.prog 14 #[.int .i64 n, .string talk] w fun e w' => ∃ v : Value, e = .returned (.tuple #[v, .bool (impl_PairsLeft.ok n talk)]) ∧ ∃ ps : List Tk.PP, Tk.Has 36 3 w' w.heap.size w.heap.size v ps ∧ Tk.vals ps = impl_PairsLeft.rows n talk ∧ Tk.Ok ps ∧ Below w.heap.size w w' := by
  have TM : Aside0 (∀ W, Calls Try.prog 74 #[.int .i64 n] W fun e w' => e = .returned (.bool (decide (2 ≤ n ∧ n ≤ 40))) ∧ Aside0 (Below W.heap.size W w')) := ⟨fun W => (impl_isMost.calls n _ W (impl_isMost.told n)).mono fun e w' h => ⟨h.1, ⟨h.2.below⟩⟩⟩
  have TT : Aside0 (∀ W, Calls Try.prog 75 #[.string talk] W fun e w' => e = .returned (.bool (impl_isTalk.ok talk)) ∧ Aside0 (Below W.heap.size W w')) := ⟨fun W => (impl_isTalk.calls talk _ W (by unfold impl_isTalk.f; rw [if_pos hs])).mono fun e w' h => ⟨h.1, ⟨h.2⟩⟩⟩
  unfold impl_PairsLeft.rows
  cases hm : decide (2 ≤ n ∧ n ≤ 40) with
  | false =>
    have e1 : impl_PairsLeft.ok n talk = false := by simp only [impl_PairsLeft.ok, hm, Bool.false_and]
    rw [hm] at TM
    rw [e1]
    clear e1 hm hs TT
    go_enter Try.func14, Try.ntmps14
    go_wp2_with (go_at_call 74; refine (TM.out _).mono ?_; rintro e w2 ⟨rfl, h2⟩)
    go_ret2
    exact ⟨_, rfl, [], Tk.Has.nil _ _ _, rfl, ⟨by simp, fun p hp => by cases hp⟩, h2.out⟩
  | true =>
    have hn := of_decide_eq_true hm
    cases ht : impl_isTalk.ok talk with
    | false =>
      have e1 : impl_PairsLeft.ok n talk = false := by simp only [impl_PairsLeft.ok, ht, Bool.and_false]
      rw [hm] at TM
      rw [ht] at TT
      rw [e1]
      clear e1 hm ht hs hn
      go_enter Try.func14, Try.ntmps14
      go_wp2_with (first
        | (go_at_call 74; refine (TM.out _).mono ?_; rintro e w2 ⟨rfl, h2⟩)
        | (go_at_call 75; refine (TT.out _).mono ?_; rintro e w3 ⟨rfl, h3⟩))
      go_ret2
      exact ⟨_, rfl, [], Tk.Has.nil _ _ _, rfl, ⟨by simp, fun p hp => by cases hp⟩, below_step h2.out h3.out⟩
    | true =>
      have e1 : impl_PairsLeft.ok n talk = true := by simp only [impl_PairsLeft.ok, ht, hm, Bool.and_true]
      obtain ⟨h1, h2, h3, _⟩ := impl_isTrue.parts talk ht
      obtain ⟨m, rfl⟩ := Int.eq_ofNat_of_zero_le (show 0 ≤ n by omega)
      have TL := Aside0.mk (fun W => impl_left.has m (by omega) talk (talk.size / 2) (by omega) h1 _ _ h3 W)
      rw [hm] at TM
      rw [ht] at TT
      rw [e1]
      clear e1 hm ht hs hn h1 h2 h3
      go_enter Try.func14, Try.ntmps14
      go_wp2_with (first
        | (go_at_call 74; refine (TM.out _).mono ?_; rintro e w2 ⟨rfl, h2⟩)
        | (go_at_call 75; refine (TT.out _).mono ?_; rintro e w3 ⟨rfl, h3⟩; have B3 := Aside0.mk (below_step h2.out h3.out); clear h2 h3)
        | (go_at_call 76; refine (TL.out _).mono ?_; rintro e w4 ⟨v, rfl, h⟩; have H := Aside0.mk h; clear h))
      go_ret2
      obtain ⟨ps, h4, h5, h6, h7⟩ := H.out
      exact ⟨_, rfl, ps, h4.lower B3.out.size B3.out.size, h5, h6, below_step B3.out h7⟩

end Go.Proofs.Ytlkbphhmahipdaa.P
