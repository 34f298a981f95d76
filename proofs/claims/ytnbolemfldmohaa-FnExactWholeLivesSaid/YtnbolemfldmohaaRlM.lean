/- Closed forms: lists of ratios marked, as the laws do it. Condition: fewer than 2^40 elements. -/
import Derived.Test.YtnbolemfldmohaaPx1
import Derived.Test.YtnbolemfldmohaaRlK
namespace Go.Proofs.Ytnbolemfldmohaa.Pr
open Go.RowKit Go.Proofs.Ytnbolemfldmohaa.P Go.Proofs.YtnbolemfldmohaaW.PrintWords Go.Proofs.Ytnbolemfldmohaa.E
def marksR (n : Nat) (m : Int) : List Rt := (List.range n).map fun i : Nat => ⟨m + 2 * (i : Int), m + 2 * (i : Int) + 1⟩
theorem marksR_length (n : Nat) (m : Int) : (marksR n m).length = n := by simp [marksR]
theorem marksR_get (n : Nat) (m : Int) (i : Nat) (h : i < n) : (marksR n m)[i]'(by rw [marksR_length]; exact h) = ⟨m + 2 * (i : Int), m + 2 * (i : Int) + 1⟩ := by simp [marksR]
theorem setR_mid (l : List Rt) (m : Int) (i : Nat) (h : i < l.length) (x : Rt) : (marksR i m ++ l.drop i).set i x = marksR i m ++ x :: l.drop (i + 1) := by
  rw [List.set_append_right _ _ (by rw [marksR_length]; exact Nat.le_refl _), marksR_length, Nat.sub_self, List.drop_eq_getElem_cons h, List.set_cons_zero]
theorem setR_mid2 (l : List Rt) (m : Int) (i : Nat) (x y : Rt) : (marksR i m ++ y :: l.drop (i + 1)).set i x = marksR i m ++ x :: l.drop (i + 1) := by
  rw [List.set_append_right _ _ (by rw [marksR_length]; exact Nat.le_refl _), marksR_length, Nat.sub_self, List.set_cons_zero]
theorem marksR_succ (l : List Rt) (m : Int) (i : Nat) : marksR i m ++ (⟨m + 2 * (i : Int), m + 2 * (i : Int) + 1⟩ : Rt) :: l.drop (i + 1) = marksR (i + 1) m ++ l.drop (i + 1) := by
  simp [marksR, List.range_succ]
theorem markRatioS_l (l : List Rt) (hl : l.length ≤ 1099511627776) (m : Int) (hm : m.natAbs ≤ 4611686018427387904) (n : Nat) : ∀ i : Nat, i ≤ l.length → l.length - i ≤ n →
    Ev (fun k => laws_markRatioS.l0 k (marksR i m ++ l.drop i) (m + 2 * i) (i : Int)) (m + 2 * l.length, marksR l.length m) := by
  have hlen : ∀ i, i ≤ l.length → (marksR i m ++ l.drop i).length = l.length := fun i h => by rw [List.length_append, marksR_length, List.length_drop]; omega
  have stop : Ev (fun k => laws_markRatioS.l0 k (marksR l.length m ++ l.drop l.length) (m + 2 * l.length) (l.length : Int)) (m + 2 * l.length, marksR l.length m) := by
    have h := hlen l.length (Nat.le_refl _)
    refine Ev.step (f := fun k => _) (fun k => by rw [laws_markRatioS.l0]) (ifn (by omega) (evEq now ?_))
    rw [List.drop_length, List.append_nil]
  induction n with
  | zero =>
    intro i h1 h2
    obtain rfl : i = l.length := by omega
    exact stop
  | succ n ih =>
    intro i h1 h2
    by_cases hi : i < l.length
    · have h := hlen i h1
      refine Ev.step (f := fun k => _) (fun k => by rw [laws_markRatioS.l0]) (ifp (by omega) (ifp (by omega) (call rfl ?_)))
      rw [w64 (m + 2 * i + 1) (by omega), w64 (i + 1) (by omega), w64 _ (by omega), Int.toNat_natCast, setR_mid l m i hi, setR_mid2, rdR_get _ i (by simp [marksR_length])]
      rw [List.getElem_append_right (by rw [marksR_length]; exact Nat.le_refl _)]
      simp only [marksR_length, Nat.sub_self, List.getElem_cons_zero]
      rw [marksR_succ]
      have := ih (i + 1) (by omega) (by omega)
      rw [show m + 2 * ((i + 1 : Nat) : Int) = m + 2 * (i : Int) + 1 + 1 by omega] at this
      exact this
    · obtain rfl : i = l.length := by omega
      exact stop
theorem markRatioS (l : List Rt) (hl : l.length ≤ 1099511627776) (m : Int) (hm : m.natAbs ≤ 4611686018427387904) : Ev (fun k => laws_markRatioS.f k l m) (m + 2 * l.length, marksR l.length m) := by
  have := markRatioS_l l hl m hm _ 0 (by omega) (Nat.le_refl _)
  simpa [marksR, laws_markRatioS.f] using this
end Go.Proofs.Ytnbolemfldmohaa.Pr
