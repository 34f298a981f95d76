/- Closed forms: lists of numbers compared, marked and looked at, as the laws do it. Condition: fewer than 2^40 elements. -/
import Derived.Test.YtnbolemfldmohaaPx1
import Derived.Test.YtnbolemfldmohaaEv
namespace Go.Proofs.Ytnbolemfldmohaa.Pr
open Go.RowKit Go.Proofs.Ytnbolemfldmohaa.P Go.Proofs.YtnbolemfldmohaaW.PrintWords Go.Proofs.Ytnbolemfldmohaa.E
def marks (n : Nat) (m : Int) : List Int := (List.range n).map fun i : Nat => m + (i : Int)
theorem marks_length (n : Nat) (m : Int) : (marks n m).length = n := by simp [marks]
theorem marks_get (n : Nat) (m : Int) (i : Nat) (h : i < n) : (marks n m)[i]'(by rw [marks_length]; exact h) = m + i := by simp [marks]
theorem rd_get (l : List Int) (i : Nat) (h : i < l.length) : rd l (i : Int) = l[i] := by simp [rd, List.getD_eq_getElem?_getD, List.getElem?_eq_getElem h]
theorem eqIntS_l (l : List Int) (hl : l.length ≤ 1099511627776) (n : Nat) : ∀ i : Nat, i ≤ l.length → l.length - i ≤ n → Ev (fun k => laws_eqIntS.l0 k l l (i : Int)) true := by
  induction n with
  | zero =>
    intro i h1 h2
    exact Ev.step (f := fun k => _) (fun k => by rw [laws_eqIntS.l0]) (ifn (by omega) now)
  | succ n ih =>
    intro i h1 h2
    by_cases hi : i < l.length
    · refine Ev.step (f := fun k => _) (fun k => by rw [laws_eqIntS.l0]) (ifp (by omega) (ifp (by omega) (ifp (by omega) (ifp rfl ?_))))
      rw [w64 _ (by omega)]
      exact ih (i + 1) (by omega) (by omega)
    · exact Ev.step (f := fun k => _) (fun k => by rw [laws_eqIntS.l0]) (ifn (by omega) now)
theorem eqIntS (l : List Int) (hl : l.length ≤ 1099511627776) : Ev (fun k => laws_eqIntS.f k l l) true := by
  unfold laws_eqIntS.f
  exact ifp rfl (eqIntS_l l hl _ 0 (by omega) (Nat.le_refl _))
theorem set_mid (l : List Int) (m : Int) (i : Nat) (h : i < l.length) : (marks i m ++ l.drop i).set i (m + i) = marks (i + 1) m ++ l.drop (i + 1) := by
  rw [List.set_append_right _ _ (by rw [marks_length]; exact Nat.le_refl _), marks_length, Nat.sub_self, List.drop_eq_getElem_cons h, List.set_cons_zero]
  simp [marks, List.range_succ]
theorem markIntS_l (l : List Int) (hl : l.length ≤ 1099511627776) (m : Int) (hm : m.natAbs ≤ 4611686018427387904) (n : Nat) : ∀ i : Nat, i ≤ l.length → l.length - i ≤ n →
    Ev (fun k => laws_markIntS.l0 k (marks i m ++ l.drop i) (m + i) (i : Int)) (m + l.length, marks l.length m) := by
  have hlen : ∀ i, i ≤ l.length → (marks i m ++ l.drop i).length = l.length := fun i h => by rw [List.length_append, marks_length, List.length_drop]; omega
  have stop : Ev (fun k => laws_markIntS.l0 k (marks l.length m ++ l.drop l.length) (m + l.length) (l.length : Int)) (m + l.length, marks l.length m) := by
    have h := hlen l.length (Nat.le_refl _)
    refine Ev.step (f := fun k => _) (fun k => by rw [laws_markIntS.l0]) (ifn (by omega) (evEq now ?_))
    rw [List.drop_length, List.append_nil]
  induction n with
  | zero =>
    intro i h1 h2
    obtain rfl : i = l.length := by omega
    exact stop
  | succ n ih =>
    intro i h1 h2
    by_cases hi : i < l.length
    · have h := hlen i h1
      refine Ev.step (f := fun k => _) (fun k => by rw [laws_markIntS.l0]) (ifp (by omega) (ifp (by omega) ?_))
      rw [w64 (m + i + 1) (by omega), w64 (i + 1) (by omega), Int.toNat_natCast, set_mid l m i hi]
      have := ih (i + 1) (by omega) (by omega)
      rw [show ((i + 1 : Nat) : Int) = (i : Int) + 1 from rfl, ← Int.add_assoc] at this
      exact this
    · obtain rfl : i = l.length := by omega
      exact stop
theorem markIntS (l : List Int) (hl : l.length ≤ 1099511627776) (m : Int) (hm : m.natAbs ≤ 4611686018427387904) : Ev (fun k => laws_markIntS.f k l m) (m + l.length, marks l.length m) := by
  have := markIntS_l l hl m hm _ 0 (by omega) (Nat.le_refl _)
  simpa [marks, laws_markIntS.f] using this
theorem heldIntS_l (N : Nat) (hl : N ≤ 1099511627776) (m : Int) (hm : m.natAbs ≤ 4611686018427387904) (n : Nat) : ∀ i : Nat, i ≤ N → N - i ≤ n → Ev (fun k => laws_heldIntS.l0 k (marks N m) (m + i) (i : Int)) (m + N) := by
  have stop : Ev (fun k => laws_heldIntS.l0 k (marks N m) (m + N) (N : Int)) (m + N) :=
    Ev.step (f := fun k => _) (fun k => by rw [laws_heldIntS.l0]) (ifn (by rw [marks_length]; omega) now)
  induction n with
  | zero =>
    intro i h1 h2
    obtain rfl : i = N := by omega
    exact stop
  | succ n ih =>
    intro i h1 h2
    by_cases hi : i < N
    · refine Ev.step (f := fun k => _) (fun k => by rw [laws_heldIntS.l0]) (ifp (by rw [marks_length]; omega) (ifp (by omega) (ifp ?_ ?_)))
      · rw [rd_get _ _ (by rw [marks_length]; exact hi), marks_get N m i hi]
      · rw [w64 (m + i + 1) (by omega), w64 (i + 1) (by omega)]
        have := ih (i + 1) (by omega) (by omega)
        rw [show ((i + 1 : Nat) : Int) = (i : Int) + 1 from rfl, ← Int.add_assoc] at this
        exact this
    · obtain rfl : i = N := by omega
      exact stop
theorem heldIntS (N : Nat) (hl : N ≤ 1099511627776) (m : Int) (hm : m.natAbs ≤ 4611686018427387904) : Ev (fun k => laws_heldIntS.f k (marks N m) m) (m + N) := by
  have := heldIntS_l N hl m hm _ 0 (by omega) (Nat.le_refl _)
  simpa [laws_heldIntS.f] using this
end Go.Proofs.Ytnbolemfldmohaa.Pr
