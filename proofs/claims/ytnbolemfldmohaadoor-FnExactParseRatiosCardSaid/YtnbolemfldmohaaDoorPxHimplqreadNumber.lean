/- Calls of the functions of the given program return what the plain Lean functions of the same names return; and a row of a law out of its pure statement. Written by a program of this session out of the translation; Lean checks it. No condition. -/
import Derived.Test.YtnbolemfldmohaaDoorPx0
import Derived.Test.YtnbolemfldmohaaDoorPxHstrconvqItoa
import Derived.Test.YtnbolemfldmohaaDoorShl
import Derived.Test.YtnbolemfldmohaaDoorPxHstrconvqItoa
import Derived.Lib.AppendIntMem
import Derived.Lib.AtoiErrMem
namespace Go.Proofs.YtnbolemfldmohaaDoor.P
open Go.RowKit Go.Proofs.YtnbolemfldmohaaDoorW.PrintWords Go.Proofs.YtnbolemfldmohaaDoorW.PrintLast Go.Proofs.YtnbolemfldmohaaDoorW.PrintMore
attribute [local go_sem] max2_int min2_int max_two min_two max_three min_three max_four min_four   -- for this text's walks alone
set_option linter.unusedVariables false
set_option linter.unusedSimpArgs false

/-! ### impl_readNumber: function 35, by hand -/
-- IMPORT Derived.Test.YtnbolemfldmohaaDoorShl
-- IMPORT Derived.Test.YtnbolemfldmohaaDoorPxHstrconvqItoa
-- IMPORT Derived.Lib.AppendIntMem
-- IMPORT Derived.Lib.AtoiErrMem
/-- What the library's functions read of the package-level variables, whatever is done behind this world: the table of powers of ten, a number, two errors. -/
structure TQ (w : World) : Prop where
  tb : TB w
  num : ∀ W, Below w.heap.size w W → ∃ m, W.cell? ⟨0, 0, none⟩ = some (.int .i64 m)
  syn : ∀ W, Below w.heap.size w W → ∃ ev, W.cell? ⟨3, 0, none⟩ = some ev ∧ (ev = .nilIface ∨ ∃ te pe, ev = .iface te pe)
  rng : ∀ W, Below w.heap.size w W → ∃ ev, W.cell? ⟨4, 0, none⟩ = some ev ∧ (ev = .nilIface ∨ ∃ te pe, ev = .iface te pe)
theorem TQ.below {w W : World} (h : TQ w) (hb : Below w.heap.size w W) : TQ W := ⟨h.tb.below hb, fun W' h' => h.num W' (below_step hb h'), fun W' h' => h.syn W' (below_step hb h'), fun W' h' => h.rng W' (below_step hb h')⟩
def impl_readNumber.v (t : ByteArray) : Int × Bool := match Lib.atoiAll t.data.toList with
  | .ok v => (v, Lib.itoa v == t.toList)
  | .range => (Lib.atoiSat t.data.toList, false)
  | _ => (0, false)
def impl_readNumber.f (a0 : ByteArray) : Option (Int × Bool) := if a0.size ≤ 2000000 then some (impl_readNumber.v a0) else none
set_option maxHeartbeats 1000000 in
theorem impl_readNumber.calls (a0 : ByteArray) (r1 : Int) (r2 : Bool) (w : World) (h : impl_readNumber.f a0 = some (r1, r2)) (hT : TQ w) :
    Calls Tryd.prog 35 #[.string a0] w fun e w' => e = .returned (.tuple #[.int .i64 r1, .bool r2]) ∧ Below w.heap.size w w' := by
  unfold impl_readNumber.f at h
  split at h
  · rename_i hc
    have h := Option.some.inj h
    unfold impl_readNumber.v at h
    cases hq : Lib.atoiAll a0.data.toList with
    | ok v =>
      rw [hq] at h
      obtain ⟨rfl, rfl⟩ := Prod.mk.inj h
      obtain ⟨b0, b1⟩ := Lib.atoiAll_bounds hq
      have hA : Calls Tryd.prog 44 #[.string a0] w fun e w' => e = .returned (.tuple #[.int .i64 v, .nilIface]) ∧ Below w.heap.size w w' := (Tryd.strconv_Atoi_ok a0 (by omega) v hq w).mono (by
        rintro e w' ⟨he, hw⟩
        refine ⟨he, ?_⟩
        rcases hw with rfl | ⟨t, rfl⟩
        · exact Below.refl _ _
        · exact Lib.bytesWorld_below w _ t)
      have hI : ∀ W, Below w.heap.size w W → Calls Tryd.prog 37 #[.int .i64 v] W fun e w' => e = .returned (.string ⟨(Lib.itoa v).toArray⟩) ∧ Below w.heap.size w w' := fun W hW => (Tryd.strconv_Itoa v (by omega) (by omega) W (hT.tb.out W hW)).mono (by
        rintro e w' ⟨he, k, os, rfl⟩
        exact ⟨he, below_step hW (Lib.below_grow _ W (Nat.le_refl _) k os)⟩)
      have HA := Aside0.mk hA
      have HI := Aside0.mk hI
      clear hA hI hT h hq hc b0 b1
      generalize Lib.itoa v = s at HI ⊢
      go_enter Tryd.func35, Tryd.ntmps35
      go_wp2_with (first | (go_at_call 44; refine HA.out.mono ?_; rintro e w' ⟨rfl, hb⟩; have HB := Aside0.mk hb; clear hb) | (go_at_call 37; refine (HI.out _ HB.out).mono ?_; rintro e w' ⟨rfl, hb⟩; have HB2 := Aside0.mk hb; clear hb))
      go_ret2
      exact ⟨rfl, HB2.out⟩
    | range =>
      rw [hq] at h
      obtain ⟨rfl, rfl⟩ := Prod.mk.inj h
      obtain ⟨ev, hv, hev⟩ := hT.rng w (Below.refl _ _)
      have HA := Aside0.mk (Tryd.strconv_Atoi_range a0 (by omega) hq ev w hv hev)
      clear hT h hq hc hv hev
      go_enter Tryd.func35, Tryd.ntmps35
      go_wp2_with (first | (go_at_call 44; refine HA.out.mono ?_; rintro e w' ⟨N, rfl, _, _, hb⟩; have HB := Aside0.mk hb; clear hb))
      go_ret2
      exact ⟨rfl, HB.out⟩
    | _ =>
      rw [hq] at h
      obtain ⟨rfl, rfl⟩ := Prod.mk.inj h
      obtain ⟨ev, hv, hev⟩ := hT.syn w (Below.refl _ _)
      have HA := Aside0.mk (Tryd.strconv_Atoi_syntax a0 (by omega) hq ev w hv hev)
      clear hT h hq hc hv hev
      go_enter Tryd.func35, Tryd.ntmps35
      go_wp2_with (first | (go_at_call 44; refine HA.out.mono ?_; rintro e w' ⟨N, rfl, _, _, hb⟩; have HB := Aside0.mk hb; clear hb))
      go_ret2
      exact ⟨rfl, HB.out⟩
  · cases h

end Go.Proofs.YtnbolemfldmohaaDoor.P
