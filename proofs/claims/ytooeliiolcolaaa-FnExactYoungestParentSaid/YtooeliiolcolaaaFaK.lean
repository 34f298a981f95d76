/- The children of somebody, on both sides. Condition: fewer than 2^30 kin. -/
import Derived.Test.YtooeliiolcolaaaPx7
import Derived.Test.YtooeliiolcolaaaPx2
import Derived.Test.YtooeliiolcolaaaFaC
namespace Go.Proofs.Ytooeliiolcolaaa.Pr
open Go.RowKit Go.Proofs.Ytooeliiolcolaaa.P Go.Proofs.YtooeliiolcolaaaW.PrintWords Go.Proofs.Ytooeliiolcolaaa.E
def kid (l : List Kn) (a : Int) (i : Nat) : Bool := (ps (rdK l i)).contains a
def kids (l : List Kn) (a : Int) : List Int := ((List.range l.length).filter (kid l a)).map fun i : Nat => (i : Int)
theorem kids_len (l : List Kn) (a : Int) : (kids l a).length ≤ l.length := by
  unfold kids
  rw [List.length_map]
  exact Nat.le_trans (List.length_filter_le _ _) (by simp)
theorem kids_mem (l : List Kn) (a p : Int) (h : p ∈ kids l a) : 0 ≤ p ∧ p < (l.length : Int) := by
  unfold kids at h
  obtain ⟨i, h1, rfl⟩ := List.mem_map.1 h
  have := List.mem_range.1 (List.mem_filter.1 h1).1
  omega
def kidsTo (l : List Kn) (a : Int) (n : Nat) : List Int := ((List.range n).filter (kid l a)).map fun i : Nat => (i : Int)
theorem kidsTo_len (l : List Kn) (a : Int) (n : Nat) : (kidsTo l a n).length ≤ n := by
  unfold kidsTo
  rw [List.length_map]
  exact Nat.le_trans (List.length_filter_le _ _) (by simp)
theorem kidsTo_yes (l : List Kn) (a : Int) (n : Nat) (h : kid l a n = true) : kidsTo l a (n + 1) = kidsTo l a n ++ [(n : Int)] := by
  simp [kidsTo, List.range_succ, h]
theorem kidsTo_no (l : List Kn) (a : Int) (n : Nat) (h : kid l a n = false) : kidsTo l a (n + 1) = kidsTo l a n := by
  simp [kidsTo, List.range_succ, h]
theorem faChildren_l (l : List Kn) (hl : l.length ≤ 1073741824) (a : Int) (n : Nat) : ∀ i : Nat, i ≤ l.length → l.length - i ≤ n → Ev (fun k => spec_faChildren.l0 k l a (kidsTo l a i) (l.length : Int) (i : Int)) (kids l a) := by
  have stop : Ev (fun k => spec_faChildren.l0 k l a (kidsTo l a l.length) (l.length : Int) (l.length : Int)) (kids l a) := by
    refine Ev.step (f := fun k => _) (fun k => by rw [spec_faChildren.l0]) (ifn (by omega) (evEq now ?_))
    rfl
  induction n with
  | zero =>
    intro i h1 h2
    obtain rfl : i = l.length := by omega
    exact stop
  | succ n ih =>
    intro i h1 h2
    by_cases hi : i < l.length
    · have hk := kidsTo_len l a i
      refine Ev.step (f := fun k => _) (fun k => by rw [spec_faChildren.l0]) (ifp (by omega) ?_)
      refine Ev.bind (faParents l i hi) (Ev.bind (l1Has a _ (Nat.le_trans (ps_len _) (by decide))) ?_)
      rw [w64 _ (by omega)]
      have e : (ps l[i]).contains a = kid l a i := by unfold kid; rw [show rdK l i = l[i] from rdK_get l i hi]
      rw [e]
      cases h : kid l a i with
      | true =>
        refine ifp rfl (ifp (by omega) ?_)
        rw [← kidsTo_yes l a i h]
        exact ih (i + 1) (by omega) (by omega)
      | false =>
        refine ifn (by simp) ?_
        rw [← kidsTo_no l a i h]
        exact ih (i + 1) (by omega) (by omega)
    · obtain rfl : i = l.length := by omega
      exact stop
theorem faChildren (l : List Kn) (hl : l.length ≤ 1073741824) (a : Int) : Ev (fun k => spec_faChildren.f k l a) (kids l a) := faChildren_l l hl a _ 0 (by omega) (Nat.le_refl _)
theorem children_l (l : List Kn) (hl : l.length ≤ 1073741824) (a : Int) (n : Nat) : ∀ i : Nat, i ≤ l.length → l.length - i ≤ n → Ev (fun k => impl_children.l0 k a (kidsTo l a i) l (l.length : Int) (i : Int)) (kids l a) := by
  have stop : Ev (fun k => impl_children.l0 k a (kidsTo l a l.length) l (l.length : Int) (l.length : Int)) (kids l a) := by
    refine Ev.step (f := fun k => _) (fun k => by rw [impl_children.l0]) (ifn (by omega) (evEq now ?_))
    rfl
  induction n with
  | zero =>
    intro i h1 h2
    obtain rfl : i = l.length := by omega
    exact stop
  | succ n ih =>
    intro i h1 h2
    by_cases hi : i < l.length
    · have hk := kidsTo_len l a i
      refine Ev.step (f := fun k => _) (fun k => by rw [impl_children.l0]) (ifp (by omega) (ifp (by omega) (ifp (by omega) ?_)))
      rw [rdK_get l i hi]
      refine call (parents_f l[i]) (Ev.bind (contains _ (Nat.le_trans (ps_len _) (by decide)) a) ?_)
      rw [w64 _ (by omega)]
      have e : (ps l[i]).contains a = kid l a i := by unfold kid; rw [show rdK l i = l[i] from rdK_get l i hi]
      rw [e]
      cases h : kid l a i with
      | true =>
        refine ifp rfl (ifp (by omega) ?_)
        rw [← kidsTo_yes l a i h]
        exact ih (i + 1) (by omega) (by omega)
      | false =>
        refine ifn (by simp) ?_
        rw [← kidsTo_no l a i h]
        exact ih (i + 1) (by omega) (by omega)
    · obtain rfl : i = l.length := by omega
      exact stop
theorem children (l : List Kn) (hl : l.length ≤ 1073741824) (a : Int) : Ev (fun k => impl_children.f k l a) (kids l a) := children_l l hl a _ 0 (by omega) (Nat.le_refl _)
end Go.Proofs.Ytooeliiolcolaaa.Pr
