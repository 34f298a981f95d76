/- Closed forms: lists of kin marked, as the laws do it. Condition: fewer than 2^40 elements. -/
import Derived.Test.YtooeliiolcolaaaPx1
import Derived.Test.YtooeliiolcolaaaPrK
namespace Go.Proofs.Ytooeliiolcolaaa.Pr
open Go.RowKit Go.Proofs.Ytooeliiolcolaaa.P Go.Proofs.YtooeliiolcolaaaW.PrintWords Go.Proofs.Ytooeliiolcolaaa.E
def marksK (n : Nat) (m : Int) : List Kn := (List.range n).map fun i : Nat => ⟨m + 3 * (i : Int), m + 3 * (i : Int) + 1, m + 3 * (i : Int) + 1 + 1⟩
theorem marksK_length (n : Nat) (m : Int) : (marksK n m).length = n := by simp [marksK]
theorem marksK_get (n : Nat) (m : Int) (i : Nat) (h : i < n) : (marksK n m)[i]'(by rw [marksK_length]; exact h) = ⟨m + 3 * (i : Int), m + 3 * (i : Int) + 1, m + 3 * (i : Int) + 1 + 1⟩ := by simp [marksK]
theorem setK_mid (l : List Kn) (m : Int) (i : Nat) (h : i < l.length) (x : Kn) : (marksK i m ++ l.drop i).set i x = marksK i m ++ x :: l.drop (i + 1) := by
  rw [List.set_append_right _ _ (by rw [marksK_length]; exact Nat.le_refl _), marksK_length, Nat.sub_self, List.drop_eq_getElem_cons h, List.set_cons_zero]
theorem setK_mid2 (l : List Kn) (m : Int) (i : Nat) (x y : Kn) : (marksK i m ++ y :: l.drop (i + 1)).set i x = marksK i m ++ x :: l.drop (i + 1) := by
  rw [List.set_append_right _ _ (by rw [marksK_length]; exact Nat.le_refl _), marksK_length, Nat.sub_self, List.set_cons_zero]
theorem rdK_mid (l : List Kn) (m : Int) (i : Nat) (y : Kn) : rd_T36 (marksK i m ++ y :: l.drop (i + 1)) (i : Int) = y := by
  rw [rdK_get _ i (by simp [marksK_length]), List.getElem_append_right (by rw [marksK_length]; exact Nat.le_refl _)]
  simp only [marksK_length, Nat.sub_self, List.getElem_cons_zero]
theorem marksK_succ (l : List Kn) (m : Int) (i : Nat) : marksK i m ++ (⟨m + 3 * (i : Int), m + 3 * (i : Int) + 1, m + 3 * (i : Int) + 1 + 1⟩ : Kn) :: l.drop (i + 1) = marksK (i + 1) m ++ l.drop (i + 1) := by
  simp [marksK, List.range_succ]
theorem markKinS_l (l : List Kn) (hl : l.length ≤ 1099511627776) (m : Int) (hm : m.natAbs ≤ 4611686018427387904) (n : Nat) : ∀ i : Nat, i ≤ l.length → l.length - i ≤ n →
    Ev (fun k => laws_markKinS.l0 k (marksK i m ++ l.drop i) (m + 3 * i) (i : Int)) (m + 3 * l.length, marksK l.length m) := by
  have hlen : ∀ i, i ≤ l.length → (marksK i m ++ l.drop i).length = l.length := fun i h => by rw [List.length_append, marksK_length, List.length_drop]; omega
  have stop : Ev (fun k => laws_markKinS.l0 k (marksK l.length m ++ l.drop l.length) (m + 3 * l.length) (l.length : Int)) (m + 3 * l.length, marksK l.length m) := by
    have h := hlen l.length (Nat.le_refl _)
    refine Ev.step (f := fun k => _) (fun k => by rw [laws_markKinS.l0]) (ifn (by omega) (evEq now ?_))
    rw [List.drop_length, List.append_nil]
  induction n with
  | zero =>
    intro i h1 h2
    obtain rfl : i = l.length := by omega
    exact stop
  | succ n ih =>
    intro i h1 h2
    by_cases hi : i < l.length
    · have h := hlen i h1
      refine Ev.step (f := fun k => _) (fun k => by rw [laws_markKinS.l0]) (ifp (by omega) (ifp (by omega) ?_))
      simp only [Option.bind_some]
      rw [w64 (m + 3 * i + 1) (by omega), w64 (i + 1) (by omega), w64 (m + 3 * i + 1 + 1) (by omega), w64 _ (by omega), Int.toNat_natCast, setK_mid l m i hi, rdK_mid, setK_mid2, rdK_mid, setK_mid2]
      rw [marksK_succ]
      have := ih (i + 1) (by omega) (by omega)
      rw [show m + 3 * ((i + 1 : Nat) : Int) = m + 3 * (i : Int) + 1 + 1 + 1 by omega] at this
      exact this
    · obtain rfl : i = l.length := by omega
      exact stop
theorem markKinS (l : List Kn) (hl : l.length ≤ 1099511627776) (m : Int) (hm : m.natAbs ≤ 4611686018427387904) : Ev (fun k => laws_markKinS.f k l m) (m + 3 * l.length, marksK l.length m) := by
  have := markKinS_l l hl m hm _ 0 (by omega) (Nat.le_refl _)
  simpa [marksK, laws_markKinS.f] using this
end Go.Proofs.Ytooeliiolcolaaa.Pr
