/- Calls of the functions of the given program return what the plain Lean functions of the same names return; and a row of a law out of its pure statement. Written by a program of this session out of the translation; Lean checks it. No condition. -/
import Derived.Test.YtllihaahppelhaaDoorPx0
import Derived.Test.YtllihaahppelhaaDoorHlp
import Derived.Shelf.Abstract
namespace Go.Proofs.YtllihaahppelhaaDoor.P
open Go.RowKit Go.Proofs.YtllihaahppelhaaDoorW.PrintWords Go.Proofs.YtllihaahppelhaaDoorW.PrintLast Go.Proofs.YtllihaahppelhaaDoorW.PrintMore
attribute [local go_sem] max2_int min2_int max_two min_two max_three min_three max_four min_four   -- for this text's walks alone
set_option linter.unusedVariables false
set_option linter.unusedSimpArgs false

/-! ### slices_IndexFunc_int_int: function 45, by hand -/
-- IMPORT Derived.Test.YtllihaahppelhaaDoorHlp
-- IMPORT Derived.Shelf.Abstract
set_option maxHeartbeats 2000000 in
/-- slices.IndexFunc at []int, whatever predicate makes no more than new blocks. -/
theorem slices_IndexFunc_int_int.any (p : Int → Bool) (g : Nat) (lb : Array Value) (eg : ∀ args w, (callFunc g args).run Tryd.prog w = .ok (.enter g args) w) (A0 : Option Addr) (c0 : Nat) (l0 : List Int) (w : World) (hr0 : Kd.C (Kd.int .i64) w A0 l0.length l0)
    (hp : ∀ x, x ∈ l0 → ∀ W, Below w.heap.size w W → Calls Tryd.prog g (#[.int .i64 x] ++ lb) W fun e w' => e = .returned (.bool (p x)) ∧ Below W.heap.size W w') :
    Calls Tryd.prog 45 #[.slice A0 l0.length c0, .func (.func g) #[] lb] w fun e w' => e = .returned (.int .i64 (Hlp.fidx p l0)) ∧ Below w.heap.size w w' := by
  have hlen := Hlp.C_len hr0
  have HR : Aside0 (Kd.C (Kd.int .i64) w A0 l0.length l0) := ⟨hr0⟩
  have HP : Aside0 _ := ⟨hp⟩
  clear hr0 hp
  go_enter Tryd.func45, Tryd.ntmps45
  go_wp2
  go_loopg [5, 8] l0.length (fun gg _ s8 wr => ∃ kk : Nat, kk ≤ l0.length ∧ l0.length - kk ≤ gg ∧ s8 = .int .i64 kk ∧ Aside0 (Below w.heap.size w wr) ∧ Aside0 (∀ j, (hj : j < kk) → (hl : j < l0.length) → p l0[j] = false))
  case atStart => exact ⟨0, Nat.zero_le _, by omega, rfl, ⟨Below.refl _ _⟩, ⟨fun j hj => absurd hj (Nat.not_lt_zero _)⟩⟩
  case round =>
    obtain ⟨kk, hkk, hg, rfl, B, A⟩ := hrel
    by_cases hlt : kk < l0.length
    · have hltz : (kk : Int) < (l0.length : Int) := by omega
      obtain ⟨ad, HA, hcell0⟩ := Hlp.int_at HR.out kk hlt
      subst HA
      have hcell : wr.cell? (ad.add kk) = some (.int .i64 l0[kk]) := pw_cell_below B.out hcell0
      clear hcell0
      have hcall := HP.out l0[kk] (List.getElem_mem hlt) wr B.out
      have Y : Aside0 (∀ j, (hj : j < kk) → (hl : j < l0.length) → p l0[j] = false) := A
      generalize hy : l0[kk] = y at hcell hcall
      have C : Aside0 (l0[kk] = y) := ⟨hy⟩
      clear hy
      cases hq : p y with
      | true =>
        rw [hq] at hcall
        have Q : Aside0 (p y = true) := ⟨hq⟩
        clear hq
        go_wp2_with (go_at_fn g; refine hcall.mono ?_; rintro e w' ⟨rfl, hb⟩; have HB : Aside0 (Below wr.heap.size wr w') := ⟨hb⟩; clear hb)
        go_ret
        refine ⟨?_, below_then B.out B.out.size HB.out⟩
        rw [Hlp.fidx_hit p l0 kk hlt (by rw [C.out]; exact Q.out) (fun j hj => A.out j hj (by omega))]
        rfl
      | false =>
        rw [hq] at hcall
        have Q : Aside0 (p y = false) := ⟨hq⟩
        clear hq
        go_wp2_with (go_at_fn g; refine hcall.mono ?_; rintro e w' ⟨rfl, hb⟩; have HB : Aside0 (Below wr.heap.size wr w') := ⟨hb⟩; clear hb)
        go_roundg (l0.length - (kk + 1))
        case measure => omega
        case rel =>
          refine ⟨kk + 1, by omega, by omega, by go_num, ⟨below_then B.out B.out.size HB.out⟩, ⟨fun j hj hl => ?_⟩⟩
          by_cases e : j = kk
          · subst e
            rw [C.out]; exact Q.out
          · exact A.out j (by omega) hl
    · have hltz : ¬ (kk : Int) < (l0.length : Int) := by omega
      have hkn : kk = l0.length := by omega
      have HK : Aside0 (kk = l0.length) := ⟨hkn⟩
      clear hkn
      go_wp2
      go_ret
      refine ⟨?_, B.out⟩
      rw [Hlp.fidx_miss p l0 (fun j hj => A.out j (by have := HK.out; omega) hj)]
      rfl

end Go.Proofs.YtllihaahppelhaaDoor.P
