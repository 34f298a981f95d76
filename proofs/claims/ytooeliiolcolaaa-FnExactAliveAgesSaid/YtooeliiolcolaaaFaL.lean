/- The loop that gathers the ages in a year, on both sides. Condition: fewer than 2^30 kin. -/
import Derived.Test.YtooeliiolcolaaaPx2
import Derived.Test.YtooeliiolcolaaaPx7
import Derived.Test.YtooeliiolcolaaaFaB
import Derived.Test.YtooeliiolcolaaaFaX
namespace Go.Proofs.Ytooeliiolcolaaa.Pr
open Go.RowKit Go.Proofs.Ytooeliiolcolaaa.P Go.Proofs.YtooeliiolcolaaaW.PrintWords Go.Proofs.Ytooeliiolcolaaa.E
def alive (l : List Kn) (y : Int) (n : Nat) : List Int := (List.range n).map fun i : Nat => max (wrap64 (y - (rdK l i).f0)) (-1)
theorem alive_len (l : List Kn) (y : Int) (n : Nat) : (alive l y n).length = n := by simp [alive]
theorem alive_succ (l : List Kn) (y : Int) (n : Nat) : alive l y n ++ [max (wrap64 (y - (rd_T36 l (n : Int)).f0)) (-1)] = alive l y (n + 1) := by simp [alive, List.range_succ]
theorem faAlive_l (l : List Kn) (hl : l.length ≤ 1000000000) (y : Int) (n : Nat) : ∀ i : Nat, i ≤ l.length → l.length - i ≤ n → Ev (fun k => spec_AliveAges.l0 k y (alive l y i) l (l.length : Int) (i : Int)) (alive l y l.length, true) := by
  have stop : Ev (fun k => spec_AliveAges.l0 k y (alive l y l.length) l (l.length : Int) (l.length : Int)) (alive l y l.length, true) :=
    Ev.step (f := fun k => _) (fun k => by rw [spec_AliveAges.l0]) (ifn (by omega) now)
  induction n with
  | zero =>
    intro i h1 h2
    obtain rfl : i = l.length := by omega
    exact stop
  | succ n ih =>
    intro i h1 h2
    by_cases hi : i < l.length
    · have hk := alive_len l y i
      refine Ev.step (f := fun k => _) (fun k => by rw [spec_AliveAges.l0]) (ifp (by omega) (ifp (by omega) (ifp (by omega) ?_)))
      refine call (most_eq _ _) ?_
      refine ifp (by rw [hk]; omega) ?_
      rw [Int.max_comm, alive_succ, w64 _ (by omega)]
      exact ih (i + 1) (by omega) (by omega)
    · obtain rfl : i = l.length := by omega
      exact stop
theorem alive_l (l : List Kn) (hl : l.length ≤ 1000000000) (y : Int) (n : Nat) : ∀ i : Nat, i ≤ l.length → l.length - i ≤ n → Ev (fun k => impl_AliveAges.l0 k y (alive l y i) l (l.length : Int) (i : Int)) (alive l y l.length, true) := by
  have stop : Ev (fun k => impl_AliveAges.l0 k y (alive l y l.length) l (l.length : Int) (l.length : Int)) (alive l y l.length, true) :=
    Ev.step (f := fun k => _) (fun k => by rw [impl_AliveAges.l0]) (ifn (by omega) now)
  induction n with
  | zero =>
    intro i h1 h2
    obtain rfl : i = l.length := by omega
    exact stop
  | succ n ih =>
    intro i h1 h2
    by_cases hi : i < l.length
    · have hk := alive_len l y i
      refine Ev.step (f := fun k => _) (fun k => by rw [impl_AliveAges.l0]) (ifp (by omega) (ifp (by omega) (ifp (by omega) (ifp (by omega) ?_))))
      rw [mx_eq, alive_succ, w64 ((i : Int) + 1) (by omega)]
      exact ih (i + 1) (by omega) (by omega)
    · obtain rfl : i = l.length := by omega
      exact stop
theorem faAlive (l : List Kn) (hl : l.length ≤ 1000000000) (y : Int) : Ev (fun k => spec_AliveAges.l0 k y ([] : List Int) l (l.length : Int) 0) (alive l y l.length, true) := faAlive_l l hl y _ 0 (by omega) (Nat.le_refl _)
theorem aliveI (l : List Kn) (hl : l.length ≤ 1000000000) (y : Int) : Ev (fun k => impl_AliveAges.l0 k y (([] : List Int)) l (l.length : Int) 0) (alive l y l.length, true) := alive_l l hl y _ 0 (by omega) (Nat.le_refl _)
end Go.Proofs.Ytooeliiolcolaaa.Pr
