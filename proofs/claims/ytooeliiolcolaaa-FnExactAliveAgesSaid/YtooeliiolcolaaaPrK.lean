/- Closed forms: lists of kin converted, compared, marked and looked at, as the laws do it. Condition: fewer than 2^40 elements. -/
import Derived.Test.YtooeliiolcolaaaPx1
import Derived.Test.YtooeliiolcolaaaPx0
import Derived.Test.YtooeliiolcolaaaEv
namespace Go.Proofs.Ytooeliiolcolaaa.Pr
open Go.RowKit Go.Proofs.Ytooeliiolcolaaa.P Go.Proofs.YtooeliiolcolaaaW.PrintWords Go.Proofs.Ytooeliiolcolaaa.E
abbrev Kn := S36
abbrev LK := S33
abbrev rdK (l : List Kn) (i : Int) : Kn := rd_T36 l i
theorem rdK_get (l : List Kn) (i : Nat) (h : i < l.length) : rd_T36 l (i : Int) = l[i] := by simp [rd_T36, List.getD_eq_getElem?_getD, List.getElem?_eq_getElem h]
theorem rdL_get (l : List LK) (i : Nat) (h : i < l.length) : rd_T33 l (i : Int) = l[i] := by simp [rd_T33, List.getD_eq_getElem?_getD, List.getElem?_eq_getElem h]
def conv1 (x : LK) : Kn := ⟨x.f0, x.f1, x.f2⟩
def conv (l : List LK) : List Kn := l.map conv1
theorem conv_length (l : List LK) : (conv l).length = l.length := by simp [conv]
theorem szKinS (l : List LK) (h : l.length ≤ 140737488351232) : laws_szKinS.f l 1048576 = some (if l.length ≤ 1048576 then 1048576 - (l.length : Int) else -1) := by
  unfold laws_szKinS.f
  rw [w64 _ (by omega)]
  by_cases h1 : l.length ≤ 1048576
  · rw [if_neg (by omega), if_pos h1]
  · rw [if_pos (by omega), if_neg h1]
theorem toKinS_l (l : List LK) (hl : l.length ≤ 1099511627776) (n : Nat) : ∀ i : Nat, i ≤ l.length → l.length - i ≤ n →
    Ev (fun k => laws_toKinS.l0 k l (conv (l.take i) ++ List.replicate (l.length - i) z36) (i : Int)) (conv l) := by
  have stop : Ev (fun k => laws_toKinS.l0 k l (conv (l.take l.length) ++ List.replicate (l.length - l.length) z36) (l.length : Int)) (conv l) := by
    refine Ev.step (f := fun k => _) (fun k => by rw [laws_toKinS.l0]) (ifn (by omega) (evEq now ?_))
    simp
  induction n with
  | zero =>
    intro i h1 h2
    obtain rfl : i = l.length := by omega
    exact stop
  | succ n ih =>
    intro i h1 h2
    by_cases hi : i < l.length
    · have hlen : (conv (l.take i) ++ List.replicate (l.length - i) z36).length = l.length := by simp [conv]; omega
      have hset : (conv (l.take i) ++ List.replicate (l.length - i) z36).set i (conv1 l[i]) = conv (l.take (i + 1)) ++ List.replicate (l.length - (i + 1)) z36 := by
        have hc : (conv (l.take i)).length = i := by simp [conv]; omega
        rw [List.set_append_right _ _ (by omega), hc, Nat.sub_self, show l.length - i = (l.length - (i + 1)) + 1 by omega, List.replicate_succ, List.set_cons_zero, List.take_succ_eq_append_getElem hi]
        simp only [conv, List.map_append, List.map_cons, List.map_nil, List.append_assoc, List.cons_append, List.nil_append]
      refine Ev.step (f := fun k => _) (fun k => by rw [laws_toKinS.l0]) (ifp (by omega) (ifp (by omega) ?_))
      refine call (b := (l[i].f0, l[i].f1, l[i].f2)) (by rw [rdL_get l i hi]; rfl) ?_
      refine ifp (by omega) ?_
      rw [w64 _ (by omega), Int.toNat_natCast]
      have := ih (i + 1) (by omega) (by omega)
      rw [← hset] at this
      exact this
    · obtain rfl : i = l.length := by omega
      exact stop
theorem toKinS (l : List LK) (hl : l.length ≤ 1099511627776) : Ev (fun k => laws_toKinS.f k l) (conv l) := by
  unfold laws_toKinS.f
  refine ifp (by omega) (ifp (by omega) ?_)
  have := toKinS_l l hl _ 0 (by omega) (Nat.le_refl _)
  simpa [conv] using this
theorem eqKin (a b c : Int) : laws_eqKin.f a b c a b c = some true := by simp [laws_eqKin.f]
theorem eqKinS_l (l : List Kn) (hl : l.length ≤ 1099511627776) (n : Nat) : ∀ i : Nat, i ≤ l.length → l.length - i ≤ n → Ev (fun k => laws_eqKinS.l0 k l l (i : Int)) true := by
  induction n with
  | zero =>
    intro i h1 h2
    exact Ev.step (f := fun k => _) (fun k => by rw [laws_eqKinS.l0]) (ifn (by omega) now)
  | succ n ih =>
    intro i h1 h2
    by_cases hi : i < l.length
    · refine Ev.step (f := fun k => _) (fun k => by rw [laws_eqKinS.l0]) (ifp (by omega) (ifp (by omega) (ifp (by omega) (call (eqKin _ _ _) (ifp rfl ?_)))))
      rw [w64 _ (by omega)]
      exact ih (i + 1) (by omega) (by omega)
    · exact Ev.step (f := fun k => _) (fun k => by rw [laws_eqKinS.l0]) (ifn (by omega) now)
theorem eqKinS (l : List Kn) (hl : l.length ≤ 1099511627776) : Ev (fun k => laws_eqKinS.f k l l) true := by
  unfold laws_eqKinS.f
  exact ifp rfl (eqKinS_l l hl _ 0 (by omega) (Nat.le_refl _))
end Go.Proofs.Ytooeliiolcolaaa.Pr
