/- Is a number among these? For the program. Condition: fewer than 2^30 numbers. -/
import Derived.Test.YtooeliiolcolaaaPx7
import Derived.Test.YtooeliiolcolaaaFaA
namespace Go.Proofs.Ytooeliiolcolaaa.Pr
open Go.RowKit Go.Proofs.Ytooeliiolcolaaa.P Go.Proofs.YtooeliiolcolaaaW.PrintWords Go.Proofs.Ytooeliiolcolaaa.E
theorem index (L : List Int) (hL : L.length ≤ 1073741824) (x : Int) (n : Nat) : ∀ i : Nat, i ≤ L.length → L.length - i ≤ n → Ev (fun k => (slices_Index_int_int.l0 k L x (L.length : Int) (i : Int)).bind fun t => some (decide (t ≥ 0))) ((L.drop i).contains x) := by
  induction n with
  | zero =>
    intro i h1 h2
    obtain rfl : i = L.length := by omega
    refine Ev.step (f := fun k => some ((L.drop L.length).contains x)) (fun k => by rw [slices_Index_int_int.l0, if_neg (by omega)]; simp) now
  | succ n ih =>
    intro i h1 h2
    by_cases hi : i < L.length
    · by_cases hx : x = L[i]
      · refine Ev.step (f := fun k => some ((L.drop i).contains x)) (fun k => ?_) now
        rw [slices_Index_int_int.l0, if_pos (by omega), if_pos (by omega), if_pos (by omega), rdI L i hi, if_pos hx, List.drop_eq_getElem_cons hi, List.contains_cons, hx]
        simp
      · refine Ev.step (f := fun k => (slices_Index_int_int.l0 k L x (L.length : Int) ((i + 1 : Nat) : Int)).bind fun t => some (decide (t ≥ 0))) (fun k => ?_) (evEq (ih (i + 1) (by omega) (by omega)) ?_)
        · rw [slices_Index_int_int.l0, if_pos (by omega), if_pos (by omega), if_pos (by omega), rdI L i hi, if_neg (by simpa using hx), w64 _ (by omega)]; rfl
        · rw [List.drop_eq_getElem_cons hi, List.contains_cons]
          simp [hx]
    · obtain rfl : i = L.length := by omega
      refine Ev.step (f := fun k => some ((L.drop L.length).contains x)) (fun k => by rw [slices_Index_int_int.l0, if_neg (by omega)]; simp) now
theorem contains (L : List Int) (hL : L.length ≤ 1073741824) (x : Int) : Ev (fun k => slices_Contains_int_int.f k L x) (L.contains x) := index L hL x _ 0 (by omega) (Nat.le_refl _)
end Go.Proofs.Ytooeliiolcolaaa.Pr
