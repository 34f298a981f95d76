/- Calls of the functions of the given program return what the plain Lean functions of the same names return; and a row of a law out of its pure statement. Written by a program of this session out of the translation; Lean checks it. No condition. -/
import Derived.Test.YtnbolemfldmohaaRows
import Derived.Test.YtnbolemfldmohaaPc12
import Derived.Test.YtnbolemfldmohaaPureFnExactAgesOfChain
import Derived.WalkKit
import Derived.ProofKit
import Derived.OpenShut
import Derived.ShutString
import Derived.ChangeOld
import Derived.Below
import Derived.SizedLaws
import Derived.Carry
import Derived.Test.YtnbolemfldmohaaRof
import Derived.Test.YtnbolemfldmohaaWSized
namespace Go.Proofs.Ytnbolemfldmohaa.fnExactAgesOfChain
open Go.ChangeShapes Go.WideShapes Go.ChangeAt Go.RowKit
open Go.ChangeMaps (open_string shut_string)
set_option linter.unusedVariables false
theorem own : ownKnob Try.prog.godebug = none := by kernel_rfl
theorem laidOut : laidOutB Try.prog = true := by kernel_rfl
def IsRow (k : IntKind) (w : World) (a : Option Addr) (len cap : Nat) (zs : List Int) : Prop :=
  (a = none ∧ len = 0 ∧ cap = 0 ∧ zs = []) ∨
  ∃ x, a = some x ∧ len ≤ cap ∧ cap ≤ maxLen ∧ zs.length = cap ∧ (∀ i, i < zs.length → w.cell? (x.add i) = some (.int k (zs.getD i 0))) ∧ ∀ n ∈ zs, (Lit.int k n).wf = true
set_option maxRecDepth 100000 in
theorem lifted (os : Os) (started : os.Started) (H : Type) (enc : TypeId × Value → H) :
    ReturnsInHanded {} Try.checked os 7 .any (Rows.fnExactAgesOfChainSpec.pre6 enc Try.prog Try.f7 Rows.fnExactAgesOfChainRow.domain false) (Rows.fnExactAgesOfChainSpec.post enc Try.prog Try.f7 false true false false) := by
  refine returnsInHanded_of_change_sized (C := Try.checked) own started (by kernel_rfl) Try.func7
    (ChangeSpec.witness6 (enc := enc) (C := Try.checked) false ⟨#[], #[.slice none 0 0, .int .i64 0], []⟩ 8 (by kernel_rfl) (by kernel_rfl) (by kernel_rfl) (by kernel_rfl)) ?_
  intro W base args ds gs before hval0 hW hcnd hsz0 _
  have hsz : (DataW.weightsEach Try.prog (Try.f7.params.toList ++ Rows.fnExactAgesOfChainSpec.plain.varTypes Try.prog) (ds ++ gs)).all (· ≤ reachBytes) = true := hsz0
  have hval : ∀ (j : Nat) t v, Try.f7.params[j]? = some t → args[j]? = some v → Value.okWide Try.prog W .any base t v := hval0
  have hW' := hW
  obtain ⟨p, q, hA0, hV, rfl, hfz, hnd⟩ := hW
  have hA : DataW.TrodAll enc Try.prog W 0 (fun _ => true) true Try.f7.params.toList args.toList ds p := hA0
  rw [Try.params7] at hA hval hsz
  obtain ⟨v0, vs0, d0, ds0, p0, q0, hargs, rfl, rfl, h0, r0⟩ := trodAll_cons hA
  obtain ⟨v1, vs1, d1, ds1, p1, q1, rfl, rfl, rfl, h1, r1⟩ := trodAll_cons r0
  obtain ⟨rfl, rfl, rfl⟩ := trodAll_nil r1
  obtain rfl : args = #[v0, v1] := by cases args; simp_all
  obtain ⟨rfl, rfl⟩ := trodVars_none hV
  obtain ⟨a0, len0, cap0, rfl⟩ := okWide_slice Try.underlying22 (hval 0 22 v0 rfl rfl)
  have k0 := h0
  have lt0 : ∀ x ∈ p0, x.block < W.heap.size := by obtain ⟨m, hm⟩ := k0; exact DataW.trod_lt m _ _ _ hm
  obtain ⟨g0, j1_0, j2_0, y0, j4_0, j5_0⟩ := RowsOf.open_int_fields (k := .i64) hsz (j := 0) (t := 22) rfl rfl Try.underlying22 Try.underlying71 (by kernel_rfl) (by kernel_rfl) Try.underlying3 (by kernel_rfl) (by kernel_rfl) h0
  obtain ⟨l0, e0, hr0, hw0⟩ : ∃ l : List P.S71, l.length = len0 ∧ Go.Proofs.YtnbolemfldmohaaW.PrintWords.Kd.C P.k71 W a0 l.length l ∧ ∀ x ∈ l, (Lit.int .i64 x.f0).wf = true ∧ (Lit.int .i64 x.f1).wf = true := by
    refine ⟨(List.range len0).map fun i => (⟨g0 i 0, g0 i 1⟩ : P.S71), by simp, ?_, ?_⟩
    · rw [List.length_map, List.length_range]
      refine RowsOf.C_of_cells (fun i => (⟨g0 i 0, g0 i 1⟩ : P.S71)) (fun i => [.int .i64 (g0 i 0), .int .i64 (g0 i 1)]) j1_0 (fun i hi => P.k71_mk W _) ?_
      intro hpos
      obtain ⟨ad, rfl, hc⟩ := j4_0 hpos
      refine ⟨ad, rfl, fun i hi j u hu => ?_⟩
      match j, hu with
      | 0, hu => obtain rfl := Option.some.inj hu; exact hc i hi 0 (by simp)
      | 1, hu => obtain rfl := Option.some.inj hu; exact hc i hi 1 (by simp)
      | j + 2, hu => simp at hu
    · intro x hx
      obtain ⟨i, hi, rfl⟩ := List.mem_map.1 hx
      have hi := List.mem_range.1 hi
      exact ⟨j5_0 i hi 0 (by simp), j5_0 i hi 1 (by simp)⟩
  subst e0
  replace y0 : l0.length * 16 ≤ 140737488351232 := y0
  obtain ⟨a1, rfl, rfl, rfl, w1⟩ := open_int Try.underlying3 (hval 1 3 v1 rfl rfl) h1
  clear hA0 hval0 hsz0 hsz
  refine (P.laws_FnExactAgesOfChain.walk Pure.FnExactAgesOfChain a0 cap0 l0 a1 W hr0 j2_0 j1_0 y0 hw0 w1).mono fun e W' ⟨he, bel⟩ => ?_
  subst he
  exact ⟨_, rfl, _, _, _, [], _, [], hW', trodAll_mk1 (shut_bool Try.underlying4 _), (trodAll_cons_mk (Below.trod laidOut (by kernel_rfl) (of_decide_eq_true (by kernel_rfl)) k0 bel lt0) (trodAll_cons_mk (shut_int Try.underlying3 w1) trodAll_mk0)), rfl, bel.frame _, fun h => by cases h⟩
theorem over : Rows.fnExactAgesOfChainRow.holds Try.pinned (OpenSpec.ofChange Rows.fnExactAgesOfChainSpec) :=
  OpenClaim.holds_of_wide 7 Try.f7 rfl rfl rfl rfl rfl rfl rfl ⟨rfl, rfl, rfl, rfl, rfl⟩ rfl rfl rfl rfl rfl (by kernel_rfl) Try.func7 (by kernel_rfl)
    (of_decide_eq_true (by kernel_rfl)) (by unfold Func.isWrapper; first | (rw [if_pos (by decide +kernel)]; kernel_rfl) | (rw [if_neg (by decide +kernel)]; exact ⟨rfl, rfl⟩))
    (fun os started H enc _ => lifted os started H enc)
theorem proved : Rows.FnExactAgesOfChainSaid := over
#print axioms proved
end Go.Proofs.Ytnbolemfldmohaa.fnExactAgesOfChain
namespace Go.Proofs.Ytnbolemfldmohaa
/-- The row, under a short name, for the claim. -/
theorem fnExactAgesOfChain_holds : Rows.FnExactAgesOfChainSaid := fnExactAgesOfChain.proved
end Go.Proofs.Ytnbolemfldmohaa
