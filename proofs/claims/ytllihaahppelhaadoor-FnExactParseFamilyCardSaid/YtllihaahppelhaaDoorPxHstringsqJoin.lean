/- Calls of the functions of the given program return what the plain Lean functions of the same names return; and a row of a law out of its pure statement. Written by a program of this session out of the translation; Lean checks it. No condition. -/
import Derived.Test.YtllihaahppelhaaDoorPx0
import Derived.Test.YtllihaahppelhaaDoorShl
import Derived.Test.YtllihaahppelhaaDoorHlp
namespace Go.Proofs.YtllihaahppelhaaDoor.P
open Go.RowKit Go.Proofs.YtllihaahppelhaaDoorW.PrintWords Go.Proofs.YtllihaahppelhaaDoorW.PrintLast Go.Proofs.YtllihaahppelhaaDoorW.PrintMore
attribute [local go_sem] max2_int min2_int max_two min_two max_three min_three max_four min_four   -- for this text's walks alone
set_option linter.unusedVariables false
set_option linter.unusedSimpArgs false

/-! ### strings_Join: function 31, by hand -/
-- IMPORT Derived.Test.YtllihaahppelhaaDoorShl
-- IMPORT Derived.Test.YtllihaahppelhaaDoorHlp
def strings_Join.f (l0 : List ByteArray) (a1 : ByteArray) : Option ByteArray := if l0.length ≤ 1000 ∧ (Lib.join (l0.map (·.data.toList)) a1.data.toList).length ≤ 1000000 then some ⟨(Lib.join (l0.map (·.data.toList)) a1.data.toList).toArray⟩ else none
theorem strings_Join.calls (A0 : Option Addr) (c0 : Nat) (l0 : List ByteArray) (a1 : ByteArray) (r : ByteArray) (w : World) (hr0 : Kd.C Kd.string w A0 l0.length l0) (hc0 : l0.length ≤ c0) (h : strings_Join.f l0 a1 = some r) :
    Calls Tryd.prog 31 #[.slice A0 l0.length c0, .string a1] w fun e w' => e = .returned (.string r) ∧ Below w.heap.size w w' := by
  unfold strings_Join.f at h
  split at h
  · rename_i hc
    obtain rfl := Option.some.inj h
    have hr : ReadsOf Value.string ⟨#[]⟩ w A0 l0.length l0 := Kd.reads_of_C (enc := Value.string) (d := ⟨#[]⟩) (h1 := fun _ => rfl) hr0
    cases l0 with
    | nil =>
      refine (Tryd.strings_Join_none A0 c0 a1 w).mono ?_
      rintro e w' ⟨rfl, rfl⟩
      exact ⟨rfl, Below.refl _ _⟩
    | cons x l =>
      obtain ⟨ad, rfl, hcell⟩ := hr.2.2 (by simp)
      have h0 := hcell 0 (by simp)
      have hsp : ad.spot = none := by
        cases hs : ad.spot with
        | none => rfl
        | some s =>
          exfalso
          unfold World.cell? at h0
          have h1 : (ad.add 0).spot = some s := hs
          rw [h1] at h0
          split at h0
          · simp at h0
          · cases h0
      obtain ⟨bk, o, sp⟩ := ad
      obtain rfl : sp = none := hsp
      refine Tryd.strings_Join bk o c0 (x :: l) a1 w (fun j y hy => ?_) (World.block_lt_of_cell? _ _ h0) (by omega) hc0 (by omega)
      obtain ⟨hj, rfl⟩ := List.getElem?_eq_some_iff.1 hy
      have := hcell j hj
      rw [List.getD_eq_getElem?_getD, List.getElem?_eq_getElem hj] at this
      rw [show (⟨bk, o, none⟩ : Addr).add j = ⟨bk, o + j, none⟩ from by unfold Addr.add; split <;> simp_all] at this
      exact this
  · cases h

end Go.Proofs.YtllihaahppelhaaDoor.P
