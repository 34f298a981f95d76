/- Calls of the functions of the given program return what the plain Lean functions of the same names return; and a row of a law out of its pure statement. Written by a program of this session out of the translation; Lean checks it. No condition. -/
import Derived.Test.YtlkbphhmahipdaaPx0
import Derived.Test.YtlkbphhmahipdaaPxHslicesqIndexFuncqintqint
import Derived.Test.YtlkbphhmahipdaaHlp
import Derived.Test.YtlkbphhmahipdaaTk
namespace Go.Proofs.Ytlkbphhmahipdaa.P
open Go.RowKit Go.Proofs.YtlkbphhmahipdaaW.PrintWords Go.Proofs.YtlkbphhmahipdaaW.PrintLast Go.Proofs.YtlkbphhmahipdaaW.PrintMore
attribute [local go_sem] max2_int min2_int max_two min_two max_three min_three max_four min_four   -- for this text's walks alone
set_option linter.unusedVariables false
set_option linter.unusedSimpArgs false

/-! ### slices_ContainsFunc_int_int: function 115, by hand -/
-- IMPORT Derived.Test.YtlkbphhmahipdaaHlp
-- IMPORT Derived.Test.YtlkbphhmahipdaaTk
set_option maxHeartbeats 1000000 in
/-- slices.ContainsFunc at rows of pairs: is there an element of which p holds. -/
theorem slices_ContainsFunc_PP.any (p : Tk.PP → Bool) (g : Nat) (lb : Array Value) (eg : ∀ args w, (callFunc g args).run Try.prog w = .ok (.enter g args) w) (A0 : Option Addr) (c0 : Nat) (l0 : List Tk.PP) (w : World) (hr0 : ∀ i, (hi : i < l0.length) → ∃ ad, A0 = some ad ∧ w.cell? (ad.add i) = some (Tk.cv l0[i])) (hlen : l0.length ≤ 9223372036854775807)
    (hp : ∀ x, x ∈ l0 → ∀ W, Below w.heap.size w W → Calls Try.prog g (#[Tk.cv x] ++ lb) W fun e w' => e = .returned (.bool (p x)) ∧ Below W.heap.size W w') :
    Calls Try.prog 115 #[.slice A0 l0.length c0, .func (.func g) #[] lb] w fun e w' => e = .returned (.bool (l0.any p)) ∧ Below w.heap.size w w' := by
  rw [← Hlp.fidx_any]
  have hcon := slices_IndexFunc_PP.any p g lb eg A0 c0 l0 w hr0 hlen hp
  have HC : Aside0 _ := ⟨hcon⟩
  clear hcon hr0 hp
  go_enter Try.func115, Try.ntmps115
  go_wp2_with (go_at_call 124; refine HC.out.mono ?_; rintro e w' ⟨rfl, hb⟩)
  go_ret
  exact ⟨rfl, hb⟩

end Go.Proofs.Ytlkbphhmahipdaa.P
