/- Calls of the functions of the given program return what the plain Lean functions of the same names return; and a row of a law out of its pure statement. Written by a program of this session out of the translation; Lean checks it. No condition. -/
import Derived.Test.YtnbolemfldmohaaDoorPx0
import Derived.Test.YtnbolemfldmohaaDoorHlp
import Derived.Shelf.Abstract
namespace Go.Proofs.YtnbolemfldmohaaDoor.P
open Go.RowKit Go.Proofs.YtnbolemfldmohaaDoorW.PrintWords Go.Proofs.YtnbolemfldmohaaDoorW.PrintLast Go.Proofs.YtnbolemfldmohaaDoorW.PrintMore
attribute [local go_sem] max2_int min2_int max_two min_two max_three min_three max_four min_four   -- for this text's walks alone
set_option linter.unusedVariables false
set_option linter.unusedSimpArgs false

/-! ### impl_Ratio_36: function 36, by hand -/
-- IMPORT Derived.Test.YtnbolemfldmohaaDoorHlp
-- IMPORT Derived.Shelf.Abstract
set_option maxHeartbeats 2000000 in
/-- slices.IndexFunc at []Ratio, whatever predicate makes no more than new blocks. -/
theorem impl_Ratio_36.any (p : S37 → Bool) (g : Nat) (lb : Array Value) (eg : ∀ args w, (callFunc g args).run Tryd.prog w = .ok (.enter g args) w) (A0 : Option Addr) (c0 : Nat) (l0 : List S37) (w : World) (hr0 : Kd.C k37 w A0 l0.length l0)
    (hp : ∀ x, x ∈ l0 → ∀ W, Below w.heap.size w W → Calls Tryd.prog g (#[.agg #[.int .i64 x.f0, .int .i64 x.f1]] ++ lb) W fun e w' => e = .returned (.bool (p x)) ∧ Below W.heap.size W w') :
    Calls Tryd.prog 36 #[.slice A0 l0.length c0, .func (.func g) #[] lb] w fun e w' => e = .returned (.int .i64 (Hlp.fidx p l0)) ∧ Below w.heap.size w w' := by
  have hlen := Hlp.C_len hr0
  have HR : Aside0 (Kd.C k37 w A0 l0.length l0) := ⟨hr0⟩
  have HP : Aside0 _ := ⟨hp⟩
  clear hr0 hp
  go_enter Tryd.func36, Tryd.ntmps36
  go_wp2
  go_loopg [5, 8] l0.length (fun gg _ s8 wr => ∃ kk : Nat, kk ≤ l0.length ∧ l0.length - kk ≤ gg ∧ s8 = .int .i64 kk ∧ Aside0 (Below w.heap.size w wr) ∧ Aside0 (∀ j, (hj : j < kk) → (hl : j < l0.length) → p l0[j] = false))
  case atStart => exact ⟨0, Nat.zero_le _, by omega, rfl, ⟨Below.refl _ _⟩, ⟨fun j hj => absurd hj (Nat.not_lt_zero _)⟩⟩
  case round =>
    obtain ⟨kk, hkk, hg, rfl, B, A⟩ := hrel
    by_cases hlt : kk < l0.length
    · have hltz : (kk : Int) < (l0.length : Int) := by omega
      obtain ⟨ad, HA, hcell0, hcell1⟩ := at_T37 HR.out (kk : Int) (by omega) (by omega)
      subst HA
      have hrd : rd_T37 l0 (kk : Int) = l0[kk] := by simp [rd_T37, List.getD_eq_getElem?_getD, List.getElem?_eq_getElem hlt]
      rw [hrd, Int.toNat_natCast] at hcell0 hcell1
      clear hrd
      replace hcell0 := pw_cell_below B.out hcell0
      replace hcell1 := pw_cell_below B.out hcell1
      have hcall := HP.out l0[kk] (List.getElem_mem hlt) wr B.out
      have Y : Aside0 (∀ j, (hj : j < kk) → (hl : j < l0.length) → p l0[j] = false) := A
      generalize hy : l0[kk] = y at hcell0 hcell1 hcall
      have C : Aside0 (l0[kk] = y) := ⟨hy⟩
      clear hy
      cases hq : p y with
      | true =>
        rw [hq] at hcall
        have Q : Aside0 (p y = true) := ⟨hq⟩
        clear hq
        go_wp2_with (go_at_fn g; refine hcall.mono ?_; rintro e w' ⟨rfl, hb⟩; have HB : Aside0 (Below wr.heap.size wr w') := ⟨hb⟩; clear hb)
        go_ret
        refine ⟨?_, below_then B.out B.out.size HB.out⟩
        rw [Hlp.fidx_hit p l0 kk hlt (by rw [C.out]; exact Q.out) (fun j hj => A.out j hj (by omega))]
        rfl
      | false =>
        rw [hq] at hcall
        have Q : Aside0 (p y = false) := ⟨hq⟩
        clear hq
        go_wp2_with (go_at_fn g; refine hcall.mono ?_; rintro e w' ⟨rfl, hb⟩; have HB : Aside0 (Below wr.heap.size wr w') := ⟨hb⟩; clear hb)
        go_roundg (l0.length - (kk + 1))
        case measure => omega
        case rel =>
          refine ⟨kk + 1, by omega, by omega, by go_num, ⟨below_then B.out B.out.size HB.out⟩, ⟨fun j hj hl => ?_⟩⟩
          by_cases e : j = kk
          · subst e
            rw [C.out]; exact Q.out
          · exact A.out j (by omega) hl
    · have hltz : ¬ (kk : Int) < (l0.length : Int) := by omega
      have hkn : kk = l0.length := by omega
      have HK : Aside0 (kk = l0.length) := ⟨hkn⟩
      clear hkn
      go_wp2
      go_ret
      refine ⟨?_, B.out⟩
      rw [Hlp.fidx_miss p l0 (fun j hj => A.out j (by have := HK.out; omega) hj)]
      rfl

end Go.Proofs.YtnbolemfldmohaaDoor.P
