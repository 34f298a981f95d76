/- Calls of the functions of the given program return what the plain Lean functions of the same names return; and a row of a law out of its pure statement. Written by a program of this session out of the translation; Lean checks it. No condition. -/
import Derived.Test.YtlkbphhmahipdaaPx0
import Derived.Test.YtlkbphhmahipdaaPx1
import Derived.Test.YtlkbphhmahipdaaPxHspecqtaLeft
import Derived.Test.YtlkbphhmahipdaaPxHimplqisTalk
import Derived.Test.YtlkbphhmahipdaaPxHimplqisTrue
import Derived.Test.YtlkbphhmahipdaaPx25
import Derived.Test.YtlkbphhmahipdaaPxHimplqPairsLeft
import Derived.Test.YtlkbphhmahipdaaTk
namespace Go.Proofs.Ytlkbphhmahipdaa.P
open Go.RowKit Go.Proofs.YtlkbphhmahipdaaW.PrintWords Go.Proofs.YtlkbphhmahipdaaW.PrintLast Go.Proofs.YtlkbphhmahipdaaW.PrintMore
attribute [local go_sem] max2_int min2_int max_two min_two max_three min_three max_four min_four   -- for this text's walks alone
set_option linter.unusedVariables false
set_option linter.unusedSimpArgs false

/-! ### spec_PairsLeft: function 13, by hand -/
-- IMPORT Derived.Test.YtlkbphhmahipdaaTk
theorem spec_taBoth.told (n : Int) (talk : ByteArray) (k : Nat) (h : spec_taTalk.f k talk = some (impl_isTalk.ok talk)) : spec_taBoth.f k n talk = some (impl_PairsLeft.ok n talk) := by
  have h2 : spec_taLimit.f n = some (decide (2 ≤ n ∧ n ≤ 40)) := by
    unfold spec_taLimit.f spec_l1In.f
    by_cases h1 : (2 : Int) ≤ n <;> by_cases h2 : n ≤ 40 <;> simp [h1, h2] <;> omega
  unfold spec_taBoth.f
  rw [h2]
  simp only [Option.bind_some]
  unfold impl_PairsLeft.ok
  cases hm : decide (2 ≤ n ∧ n ≤ 40) with
  | false => simp [hm]
  | true => simp [hm, h]
set_option maxHeartbeats 4000000 in
set_option maxRecDepth 100000 in
theorem spec_PairsLeft.has (n : Int) (talk : ByteArray) (k : Nat) (hk : spec_taTalk.f k talk = some (impl_isTalk.ok talk)) (w : World) :
    Calls Try.prog 13 #[.int .i64 n, .string talk] w fun e w' => ∃ v : Value, e = .returned (.tuple #[v, .bool (impl_PairsLeft.ok n talk)]) ∧ ∃ ps : List Tk.PP, Tk.Has 36 3 w' w.heap.size w.heap.size v ps ∧ Tk.vals ps = impl_PairsLeft.rows n talk ∧ Tk.Ok ps ∧ Below w.heap.size w w' := by
  have TB : Aside0 (∀ W, Calls Try.prog 72 #[.int .i64 n, .string talk] W fun e w' => e = .returned (.bool (impl_PairsLeft.ok n talk)) ∧ Aside0 (Below W.heap.size W w')) := ⟨fun W => (spec_taBoth.calls k n talk _ W (spec_taBoth.told n talk k hk)).mono fun e w' h => ⟨h.1, ⟨h.2.below⟩⟩⟩
  clear hk
  unfold impl_PairsLeft.rows
  cases hm : impl_PairsLeft.ok n talk with
  | false =>
    rw [hm] at TB
    clear hm
    go_enter Try.func13, Try.ntmps13
    go_wp2_with (go_at_call 72; refine (TB.out _).mono ?_; rintro e w2 ⟨rfl, h2⟩)
    go_ret2
    exact ⟨_, rfl, [], Tk.Has.nil _ _ _, rfl, ⟨by simp, fun p hp => by cases hp⟩, h2.out⟩
  | true =>
    have hc : (2 ≤ n ∧ n ≤ 40) ∧ impl_isTalk.ok talk = true := by simpa [impl_PairsLeft.ok] using hm
    obtain ⟨h1, h2, h3, h4⟩ := impl_isTrue.parts talk hc.2
    obtain ⟨m, rfl⟩ := Int.eq_ofNat_of_zero_le (show 0 ≤ n by omega)
    have TL := Aside0.mk (fun W => spec_taLeft.has m (by omega) talk (talk.size / 2) (by omega) h1 _ _ h3 h4 W)
    rw [hm] at TB
    clear hm hc h1 h2 h3 h4
    go_enter Try.func13, Try.ntmps13
    go_wp2_with (first
      | (go_at_call 72; refine (TB.out _).mono ?_; rintro e w2 ⟨rfl, h2⟩)
      | (go_at_call 73; refine (TL.out _).mono ?_; rintro e w4 ⟨v, rfl, h⟩; have H := Aside0.mk h; clear h))
    go_ret2
    obtain ⟨ps, h4, h5, h6, h7⟩ := H.out
    exact ⟨_, rfl, ps, h4.lower h2.out.size h2.out.size, h5, h6, below_step h2.out h7⟩

end Go.Proofs.Ytlkbphhmahipdaa.P
