/- Closed forms: lists of ratios compared, marked and looked at, as the laws do it. Condition: fewer than 2^40 elements. -/
import Derived.Test.YtkjmiamldajcbaaPx18
import Derived.Test.YtkjmiamldajcbaaPx19
import Derived.Test.YtkjmiamldajcbaaPx1
import Derived.Test.YtkjmiamldajcbaaPx0
import Derived.Test.YtkjmiamldajcbaaEv
namespace Go.Proofs.Ytkjmiamldajcbaa.Pr
open Go.RowKit Go.Proofs.Ytkjmiamldajcbaa.P Go.Proofs.YtkjmiamldajcbaaW.PrintWords Go.Proofs.Ytkjmiamldajcbaa.E
abbrev Rt := S25
theorem rdR (l : List Rt) (i : Nat) (h : i < l.length) : rd_T25 l (i : Int) = l[i] := by simp [rd_T25, List.getD_eq_getElem?_getD, List.getElem?_eq_getElem h]
def marksR (n : Nat) (m : Int) : List Rt := (List.range n).map fun i : Nat => ⟨m + 2 * (i : Int), m + 2 * (i : Int) + 1⟩
theorem marksR_length (n : Nat) (m : Int) : (marksR n m).length = n := by simp [marksR]
theorem marksR_get (n : Nat) (m : Int) (i : Nat) (h : i < n) : (marksR n m)[i]'(by rw [marksR_length]; exact h) = ⟨m + 2 * (i : Int), m + 2 * (i : Int) + 1⟩ := by simp [marksR]
theorem eqRatio (a b : Int) : laws_eqRatio.f a b a b = some true := by simp [laws_eqRatio.f]
theorem eqRatioS_l (l : List Rt) (hl : l.length ≤ 1099511627776) (n : Nat) : ∀ i : Nat, i ≤ l.length → l.length - i ≤ n → Ev (fun k => laws_eqRatioS.l0 k l l (i : Int)) true := by
  induction n with
  | zero =>
    intro i h1 h2
    exact Ev.step (f := fun k => _) (fun k => by rw [laws_eqRatioS.l0]) (ifn (by omega) now)
  | succ n ih =>
    intro i h1 h2
    by_cases hi : i < l.length
    · refine Ev.step (f := fun k => _) (fun k => by rw [laws_eqRatioS.l0]) (ifp (by omega) (ifp (by omega) (ifp (by omega) (call (eqRatio _ _) (ifp rfl ?_)))))
      rw [w64 _ (by omega)]
      exact ih (i + 1) (by omega) (by omega)
    · exact Ev.step (f := fun k => _) (fun k => by rw [laws_eqRatioS.l0]) (ifn (by omega) now)
theorem eqRatioS (l : List Rt) (hl : l.length ≤ 1099511627776) : Ev (fun k => laws_eqRatioS.f k l l) true := by
  unfold laws_eqRatioS.f
  exact ifp rfl (eqRatioS_l l hl _ 0 (by omega) (Nat.le_refl _))
theorem setR_mid (l : List Rt) (m : Int) (i : Nat) (h : i < l.length) (x : Rt) : (marksR i m ++ l.drop i).set i x = marksR i m ++ x :: l.drop (i + 1) := by
  rw [List.set_append_right _ _ (by rw [marksR_length]; exact Nat.le_refl _), marksR_length, Nat.sub_self, List.drop_eq_getElem_cons h, List.set_cons_zero]
theorem setR_mid2 (l : List Rt) (m : Int) (i : Nat) (x y : Rt) : (marksR i m ++ y :: l.drop (i + 1)).set i x = marksR i m ++ x :: l.drop (i + 1) := by
  rw [List.set_append_right _ _ (by rw [marksR_length]; exact Nat.le_refl _), marksR_length, Nat.sub_self, List.set_cons_zero]
theorem marksR_succ (l : List Rt) (m : Int) (i : Nat) : marksR i m ++ (⟨m + 2 * (i : Int), m + 2 * (i : Int) + 1⟩ : Rt) :: l.drop (i + 1) = marksR (i + 1) m ++ l.drop (i + 1) := by
  simp [marksR, List.range_succ]
theorem markRatioS_l (l : List Rt) (hl : l.length ≤ 1099511627776) (m : Int) (hm : m.natAbs ≤ 4611686018427387904) (n : Nat) : ∀ i : Nat, i ≤ l.length → l.length - i ≤ n →
    Ev (fun k => laws_markRatioS.l0 k (marksR i m ++ l.drop i) (m + 2 * i) (i : Int)) (m + 2 * l.length, marksR l.length m) := by
  have hlen : ∀ i, i ≤ l.length → (marksR i m ++ l.drop i).length = l.length := fun i h => by rw [List.length_append, marksR_length, List.length_drop]; omega
  have stop : Ev (fun k => laws_markRatioS.l0 k (marksR l.length m ++ l.drop l.length) (m + 2 * l.length) (l.length : Int)) (m + 2 * l.length, marksR l.length m) := by
    have h := hlen l.length (Nat.le_refl _)
    refine Ev.step (f := fun k => _) (fun k => by rw [laws_markRatioS.l0]) (ifn (by omega) (evEq now ?_))
    rw [List.drop_length, List.append_nil]
  induction n with
  | zero =>
    intro i h1 h2
    obtain rfl : i = l.length := by omega
    exact stop
  | succ n ih =>
    intro i h1 h2
    by_cases hi : i < l.length
    · have h := hlen i h1
      refine Ev.step (f := fun k => _) (fun k => by rw [laws_markRatioS.l0]) (ifp (by omega) (ifp (by omega) (call rfl ?_)))
      rw [w64 (m + 2 * i + 1) (by omega), w64 (i + 1) (by omega), w64 _ (by omega), Int.toNat_natCast, setR_mid l m i hi, setR_mid2, rdR _ i (by simp [marksR_length])]
      rw [List.getElem_append_right (by rw [marksR_length]; exact Nat.le_refl _)]
      simp only [marksR_length, Nat.sub_self, List.getElem_cons_zero]
      rw [marksR_succ]
      have := ih (i + 1) (by omega) (by omega)
      rw [show m + 2 * ((i + 1 : Nat) : Int) = m + 2 * (i : Int) + 1 + 1 by omega] at this
      exact this
    · obtain rfl : i = l.length := by omega
      exact stop
theorem markRatioS (l : List Rt) (hl : l.length ≤ 1099511627776) (m : Int) (hm : m.natAbs ≤ 4611686018427387904) : Ev (fun k => laws_markRatioS.f k l m) (m + 2 * l.length, marksR l.length m) := by
  have := markRatioS_l l hl m hm _ 0 (by omega) (Nat.le_refl _)
  simpa [marksR, laws_markRatioS.f] using this
theorem heldRatioS_l (N : Nat) (hl : N ≤ 1099511627776) (m : Int) (hm : m.natAbs ≤ 4611686018427387904) (n : Nat) : ∀ i : Nat, i ≤ N → N - i ≤ n → Ev (fun k => laws_heldRatioS.l0 k (marksR N m) (m + 2 * i) (i : Int)) (m + 2 * N) := by
  have stop : Ev (fun k => laws_heldRatioS.l0 k (marksR N m) (m + 2 * N) (N : Int)) (m + 2 * N) :=
    Ev.step (f := fun k => _) (fun k => by rw [laws_heldRatioS.l0]) (ifn (by rw [marksR_length]; omega) now)
  induction n with
  | zero =>
    intro i h1 h2
    obtain rfl : i = N := by omega
    exact stop
  | succ n ih =>
    intro i h1 h2
    by_cases hi : i < N
    · have e : rd_T25 (marksR N m) (i : Int) = ⟨m + 2 * (i : Int), m + 2 * (i : Int) + 1⟩ := by
        rw [rdR _ _ (by rw [marksR_length]; exact hi), marksR_get N m i hi]
      refine Ev.step (f := fun k => _) (fun k => by rw [laws_heldRatioS.l0]) (ifp (by rw [marksR_length]; omega) (ifp (by omega) ?_))
      rw [e]
      refine ifp rfl (ifp ?_ ?_)
      · rw [w64 _ (by omega)]
      · rw [w64 (m + 2 * i + 1) (by omega), w64 (i + 1) (by omega), w64 _ (by omega)]
        have := ih (i + 1) (by omega) (by omega)
        rw [show m + 2 * ((i + 1 : Nat) : Int) = m + 2 * (i : Int) + 1 + 1 by omega] at this
        exact this
    · obtain rfl : i = N := by omega
      exact stop
theorem heldRatioS (N : Nat) (hl : N ≤ 1099511627776) (m : Int) (hm : m.natAbs ≤ 4611686018427387904) : Ev (fun k => laws_heldRatioS.f k (marksR N m) m) (m + 2 * N) := by
  have := heldRatioS_l N hl m hm _ 0 (by omega) (Nat.le_refl _)
  simpa [laws_heldRatioS.f] using this
end Go.Proofs.Ytkjmiamldajcbaa.Pr
