/- Calls of the functions of the given program return what the plain Lean functions of the same names return; and a row of a law out of its pure statement. Written by a program of this session out of the translation; Lean checks it. No condition. -/
import Derived.Test.YtllihaahppelhaaDoorRows
import Derived.Test.YtllihaahppelhaaDoorPx15
import Derived.Test.YtllihaahppelhaaDoorPureFnExactParseFamily
import Derived.WalkKit
import Derived.ProofKit
import Derived.OpenShut
import Derived.ShutString
import Derived.ChangeOld
import Derived.Below
import Derived.SizedLaws
import Derived.Handed
import Derived.LaidLaws
import Derived.Deep.DeepLaidRun
import Derived.Lib.LaidTab
import Derived.Lib.AppendIntMem
import Derived.Stop.LaidErr
import Derived.SevenTiedAt
import Derived.Test.YtllihaahppelhaaDoorCards
import Derived.Test.YtllihaahppelhaaDoorHs
import Derived.Lay
import Derived.Test.YtllihaahppelhaaDoorTie
namespace Go.Proofs.YtllihaahppelhaaDoor.fnExactParseFamily
open Go.ChangeShapes Go.WideShapes Go.ChangeAt Go.RowKit
open Go.ChangeMaps (open_string shut_string)
set_option linter.unusedVariables false
theorem own : ownKnob Tryd.prog.godebug = none := by kernel_rfl
theorem laid_met (os : Os) (args : Array Value) : laidMet Tryd.prog Rows.fnExactParseFamilyRow.laid ((World.laidAll Tryd.prog os Rows.fnExactParseFamilyRow.laid).forCall (fun _ _ => 0) ⟨#[], args, []⟩).memory :=
  laidMet_laidAll _ (by kernel_rfl) (by kernel_rfl)
/-- The table of powers of ten, out of the row's condition. -/
theorem table {W : World} (h : laidMet Tryd.prog Rows.fnExactParseFamilyRow.laid W) : P.TB W :=
  ⟨Lib.tabBelow_of_tabIs (Lib.tabIs_of_head (k := .u64) (zs := Lib.pow10Tab) (g := 5) (t := 111) (by kernel_rfl) (by kernel_rfl) Tryd.underlying111 (by kernel_rfl) (by kernel_rfl) (by kernel_rfl) (rest := [("unicode/utf8.acceptRanges", Rows.laid_unicode_utf8_acceptRanges), ("strconv.ErrRange", Rows.laid_strconv_ErrRange), ("strconv.ErrSyntax", Rows.laid_strconv_ErrSyntax), ("unicode/utf8.first", Rows.laid_unicode_utf8_first)]) (by
    have h2 := h.tail.tail
    rw [show (Lib.tabData .u64 Lib.pow10Tab : DataW Unit) = Rows.laid_internal_strconv_uint64pow10 from by kernel_rfl]
    exact h2))⟩
/-- All that the library's functions read. -/
theorem reads {W : World} (h : laidMet Tryd.prog Rows.fnExactParseFamilyRow.laid W) (hs : W.ShapedOpen Tryd.prog) : P.TQ W := by
  obtain ⟨m, hm⟩ := cell_of_shapedOpen_int (g := 0) (t := 3) (zero := #[.int .i64 0]) (k := .i64) hs (of_decide_eq_true (by kernel_rfl)) (by kernel_rfl) rfl (by kernel_rfl) (by kernel_rfl) (by kernel_rfl)
  obtain ⟨ev, hv, hev⟩ := Hs.cell_laid (g := 3) h.tail.tail.tail.tail.tail (by kernel_rfl) (by kernel_rfl) Tryd.underlying67
  obtain ⟨ew, hw, hew⟩ := Hs.cell_laid (g := 4) h.tail.tail.tail.tail (by kernel_rfl) (by kernel_rfl) Tryd.underlying67
  exact ⟨table h, fun W' hb => ⟨m, (hb.cell (World.block_lt_of_cell? _ _ hm)).trans hm⟩, fun W' hb => ⟨ev, (hb.cell (World.block_lt_of_cell? _ _ hv)).trans hv, hev⟩, fun W' hb => ⟨ew, (hb.cell (World.block_lt_of_cell? _ _ hw)).trans hw, hew⟩⟩
set_option maxRecDepth 100000 in
theorem lifted (os : Os) (started : os.Started) (H : Type) (enc : TypeId × Value → H) :
    ReturnsInHanded {} Tryd.checked os 4 .any (fun w args => (Rows.fnExactParseFamilySpec.pre enc Tryd.prog Tryd.f4 Rows.fnExactParseFamilyRow.domain false w args ∧ laidMet Tryd.prog Rows.fnExactParseFamilyRow.laid w) ∧ sizedMet enc Tryd.prog Tryd.f4 (OpenSpec.ofChange Rows.fnExactParseFamilySpec) false w args) (Rows.fnExactParseFamilySpec.post enc Tryd.prog Tryd.f4 false true false false) := by
  refine Hs.of_change_laid (C := Tryd.checked) (X := fun w _ => laidMet Tryd.prog Rows.fnExactParseFamilyRow.laid w) (fun _ _ _ hh h => h.of_heap hh) own started (by kernel_rfl) Tryd.func4
    (ChangeSpec.witness_shaped (enc := enc) (C := Tryd.checked) (os := os) (X := fun w _ => laidMet Tryd.prog Rows.fnExactParseFamilyRow.laid w) false (World.laidAll Tryd.prog os Rows.fnExactParseFamilyRow.laid) #[.string ByteArray.empty] 8 (World.laidAll_os _ _ _) (World.shaped_of_ZipB (by kernel_rfl) (by kernel_rfl)) (by kernel_rfl) (by kernel_rfl) (by kernel_rfl) (laid_met os _)) ?_
  intro W base args ds gs before hval0 hW hsz0 hL hS
  have hsz : (DataW.weightsEach Tryd.prog (Tryd.f4.params.toList ++ Rows.fnExactParseFamilySpec.plain.varTypes Tryd.prog) (ds ++ gs)).all (· ≤ reachBytes) = true := hsz0
  have hval : ∀ (j : Nat) t v, Tryd.f4.params[j]? = some t → args[j]? = some v → Value.okWide Tryd.prog W .any base t v := hval0
  have hW' := hW
  obtain ⟨p, q, hA0, hV, rfl, hfz, hnd⟩ := hW
  have hA : DataW.TrodAll enc Tryd.prog W 0 (fun _ => true) true Tryd.f4.params.toList args.toList ds p := hA0
  rw [Tryd.params4] at hA hval hsz
  obtain ⟨v0, vs0, d0, ds0, p0, q0, hargs, rfl, rfl, h0, r0⟩ := trodAll_cons hA
  obtain ⟨rfl, rfl, rfl⟩ := trodAll_nil r0
  obtain rfl : args = #[v0] := by cases args; simp_all
  obtain ⟨rfl, rfl⟩ := trodVars_none hV
  obtain ⟨a0, rfl, rfl, rfl, y0⟩ := open_string Tryd.underlying9 (hval 0 9 v0 rfl rfl) h0
  have w0 : a0.size ≤ 140737488351232 := by
    have z := sized_string hsz (j := 0) (t := 9) rfl rfl
    rw [Array.length_toList] at z
    exact z
  clear hA0 hval0 hsz0 hsz
  refine (P.laws_FnExactParseFamily.walk Pure.FnExactParseFamily a0 W w0 (reads hL hS)).mono fun e W' ⟨he, bel⟩ => ?_
  subst he
  exact ⟨_, rfl, _, _, _, [], _, [], hW', trodAll_mk1 (shut_bool Tryd.underlying4 _), (trodAll_cons_mk (shut_string Tryd.underlying9 y0) trodAll_mk0), rfl, bel.frame _, fun h => by cases h⟩
theorem over : Rows.fnExactParseFamilyRow.holds Tryd.pinned (OpenSpec.ofChange Rows.fnExactParseFamilySpec) :=
  OpenClaim.holds_of_wide 4 Tryd.f4 rfl rfl rfl rfl rfl rfl rfl ⟨rfl, rfl, rfl, rfl, rfl⟩ rfl rfl rfl rfl rfl (by kernel_rfl) Tryd.func4 (by kernel_rfl)
    (of_decide_eq_true (by kernel_rfl)) (by unfold Func.isWrapper; first | (rw [if_pos (by decide +kernel)]; kernel_rfl) | (rw [if_neg (by decide +kernel)]; exact ⟨rfl, rfl⟩))
    (fun os started H enc _ => lifted os started H enc)
theorem proved : Rows.FnExactParseFamilySaid := over
/-- The tied card. -/
theorem carded : Rows.FnExactParseFamilyCardSaid :=
  Claim7.holds_tied_plain_at .later [] [.data, .data, .data, .data, .sentinel, .sentinel, .pinned] true (true, "d2009287d96bcae969ce7840900762058c764821ab2e15618a2a3a2b13b8042a") true over (fun _ h => by cases h) (by kernel_rfl) (fun _ h => by cases h) fnExactParseFamily_row_tie rfl ⟨rfl, rfl⟩ (by kernel_rfl) rfl
    (fun f fn hf hfn => by
      obtain rfl : f = 4 := Option.some.inj ((show Tryd.prog.funcNamed "loop.example/g01369/laws.FnExactParseFamily" = some 4 by kernel_rfl).symm.trans hf) |>.symm
      obtain rfl : fn = Tryd.f4 := (Option.some.inj (Tryd.func4.symm.trans hfn)).symm
      exact ⟨by kernel_rfl, fun j t ht => by
        rw [Tryd.params4] at ht
        rcases j with _ | j
        · obtain rfl := Option.some.inj ht
          kernel_rfl
        · simp at ht⟩)
    (by kernel_rfl)
#print axioms carded
end Go.Proofs.YtllihaahppelhaaDoor.fnExactParseFamily
namespace Go.Proofs.YtllihaahppelhaaDoor
/-- The row, under a short name, for the claim. -/
theorem fnExactParseFamily_card : Rows.FnExactParseFamilyCardSaid := fnExactParseFamily.carded
end Go.Proofs.YtllihaahppelhaaDoor
