/- Closed forms: lists of ratios converted, compared, marked and looked at, as the laws do it. Condition: fewer than 2^40 elements. -/
import Derived.Test.YtnbolemfldmohaaPx1
import Derived.Test.YtnbolemfldmohaaPx0
import Derived.Test.YtnbolemfldmohaaEv
namespace Go.Proofs.Ytnbolemfldmohaa.Pr
open Go.RowKit Go.Proofs.Ytnbolemfldmohaa.P Go.Proofs.YtnbolemfldmohaaW.PrintWords Go.Proofs.Ytnbolemfldmohaa.E
abbrev Rt := S43
abbrev LR := S71
abbrev rdR (l : List Rt) (i : Int) : Rt := rd_T43 l i
theorem rdR_get (l : List Rt) (i : Nat) (h : i < l.length) : rd_T43 l (i : Int) = l[i] := by simp [rd_T43, List.getD_eq_getElem?_getD, List.getElem?_eq_getElem h]
theorem rdL_get (l : List LR) (i : Nat) (h : i < l.length) : rd_T71 l (i : Int) = l[i] := by simp [rd_T71, List.getD_eq_getElem?_getD, List.getElem?_eq_getElem h]
def conv1 (x : LR) : Rt := ⟨x.f0, x.f1⟩
def conv (l : List LR) : List Rt := l.map conv1
theorem conv_length (l : List LR) : (conv l).length = l.length := by simp [conv]
theorem szRatioS (l : List LR) (h : l.length ≤ 140737488351232) : laws_szRatioS.f l 1048576 = some (if l.length ≤ 1048576 then 1048576 - (l.length : Int) else -1) := by
  unfold laws_szRatioS.f
  rw [w64 _ (by omega)]
  by_cases h1 : l.length ≤ 1048576
  · rw [if_neg (by omega), if_pos h1]
  · rw [if_pos (by omega), if_neg h1]
theorem toRatioS_l (l : List LR) (hl : l.length ≤ 1099511627776) (n : Nat) : ∀ i : Nat, i ≤ l.length → l.length - i ≤ n →
    Ev (fun k => laws_toRatioS.l0 k l (conv (l.take i) ++ List.replicate (l.length - i) z43) (i : Int)) (conv l) := by
  have stop : Ev (fun k => laws_toRatioS.l0 k l (conv (l.take l.length) ++ List.replicate (l.length - l.length) z43) (l.length : Int)) (conv l) := by
    refine Ev.step (f := fun k => _) (fun k => by rw [laws_toRatioS.l0]) (ifn (by omega) (evEq now ?_))
    simp
  induction n with
  | zero =>
    intro i h1 h2
    obtain rfl : i = l.length := by omega
    exact stop
  | succ n ih =>
    intro i h1 h2
    by_cases hi : i < l.length
    · have hlen : (conv (l.take i) ++ List.replicate (l.length - i) z43).length = l.length := by simp [conv]; omega
      have hset : (conv (l.take i) ++ List.replicate (l.length - i) z43).set i (conv1 l[i]) = conv (l.take (i + 1)) ++ List.replicate (l.length - (i + 1)) z43 := by
        have hc : (conv (l.take i)).length = i := by simp [conv]; omega
        rw [List.set_append_right _ _ (by omega), hc, Nat.sub_self, show l.length - i = (l.length - (i + 1)) + 1 by omega, List.replicate_succ, List.set_cons_zero, List.take_succ_eq_append_getElem hi]
        simp only [conv, List.map_append, List.map_cons, List.map_nil, List.append_assoc, List.cons_append, List.nil_append]
      refine Ev.step (f := fun k => _) (fun k => by rw [laws_toRatioS.l0]) (ifp (by omega) (ifp (by omega) ?_))
      refine call (b := (l[i].f0, l[i].f1)) (by rw [rdL_get l i hi]; rfl) ?_
      refine ifp (by omega) ?_
      rw [w64 _ (by omega), Int.toNat_natCast]
      have := ih (i + 1) (by omega) (by omega)
      rw [← hset] at this
      exact this
    · obtain rfl : i = l.length := by omega
      exact stop
theorem toRatioS (l : List LR) (hl : l.length ≤ 1099511627776) : Ev (fun k => laws_toRatioS.f k l) (conv l) := by
  unfold laws_toRatioS.f
  refine ifp (by omega) (ifp (by omega) ?_)
  have := toRatioS_l l hl _ 0 (by omega) (Nat.le_refl _)
  simpa [conv] using this
theorem eqRatio (a b : Int) : laws_eqRatio.f a b a b = some true := by simp [laws_eqRatio.f]
theorem eqRatioS_l (l : List Rt) (hl : l.length ≤ 1099511627776) (n : Nat) : ∀ i : Nat, i ≤ l.length → l.length - i ≤ n → Ev (fun k => laws_eqRatioS.l0 k l l (i : Int)) true := by
  induction n with
  | zero =>
    intro i h1 h2
    exact Ev.step (f := fun k => _) (fun k => by rw [laws_eqRatioS.l0]) (ifn (by omega) now)
  | succ n ih =>
    intro i h1 h2
    by_cases hi : i < l.length
    · refine Ev.step (f := fun k => _) (fun k => by rw [laws_eqRatioS.l0]) (ifp (by omega) (ifp (by omega) (ifp (by omega) (call (eqRatio _ _) (ifp rfl ?_)))))
      rw [w64 _ (by omega)]
      exact ih (i + 1) (by omega) (by omega)
    · exact Ev.step (f := fun k => _) (fun k => by rw [laws_eqRatioS.l0]) (ifn (by omega) now)
theorem eqRatioS (l : List Rt) (hl : l.length ≤ 1099511627776) : Ev (fun k => laws_eqRatioS.f k l l) true := by
  unfold laws_eqRatioS.f
  exact ifp rfl (eqRatioS_l l hl _ 0 (by omega) (Nat.le_refl _))
end Go.Proofs.Ytnbolemfldmohaa.Pr
