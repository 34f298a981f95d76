/- The program's AliveAges tells what the reference's tells, for every family and year, and leaves what it is handed. No condition. -/
import Derived.Test.YtooeliiolcolaaaPx8
import Derived.Test.YtooeliiolcolaaaPx2
import Derived.Test.YtooeliiolcolaaaPx7
import Derived.Test.YtooeliiolcolaaaFaL
import Derived.Test.YtooeliiolcolaaaPrS
import Derived.Test.YtooeliiolcolaaaPrM
namespace Go.Proofs.Ytooeliiolcolaaa.Pure
open Go.RowKit Go.Proofs.Ytooeliiolcolaaa.P Go.Proofs.Ytooeliiolcolaaa.Pr Go.Proofs.Ytooeliiolcolaaa.E Go.Proofs.YtooeliiolcolaaaW.PrintWords
theorem AliveAges_both (l : List Kn) (hl : l.length ≤ 1048576) (a : Int) : ∃ v, v.1.length ≤ 1048576 ∧ Ev (fun k => spec_AliveAges.f k l a) v ∧ Ev (fun k => impl_AliveAges.f k l a) v := by
  unfold spec_AliveAges.f impl_AliveAges.f
  have hw := faGood l (by omega)
  have hk := isFamily l (by omega)
  cases h : good l with
  | true =>
    have hf := (good_iff l).1 h
    rw [h] at hw hk
    by_cases hy : 0 ≤ a ∧ a ≤ 3000
    · refine ⟨(alive l a l.length, true), by rw [alive_len]; exact hl, Ev.bind hw (ifp rfl (call (l1In _ _ _) ?_)), Ev.bind hk (ifp rfl (call (between _ _ _) ?_))⟩
      · exact Ev.step (f := fun k => _) (fun k => by rw [spec_AliveAges.j0]) (ifn (by simpa using hy) (faAlive l (by omega) a))
      · exact Ev.step (f := fun k => _) (fun k => by rw [impl_AliveAges.j0]) (ifn (by simpa using hy) (aliveI l (by omega) a))
    · refine ⟨([], false), by simp, Ev.bind hw (ifp rfl (call (l1In _ _ _) ?_)), Ev.bind hk (ifp rfl (call (between _ _ _) ?_))⟩
      · exact Ev.step (f := fun k => _) (fun k => by rw [spec_AliveAges.j0]) (ifp (by rw [decide_eq_false hy]; rfl) now)
      · exact Ev.step (f := fun k => _) (fun k => by rw [impl_AliveAges.j0]) (ifp (by rw [decide_eq_false hy]; rfl) now)
  | false =>
    rw [h] at hw hk
    refine ⟨([], false), by simp, Ev.bind hw (ifn (by simp) ?_), Ev.bind hk (ifn (by simp) ?_)⟩
    · exact Ev.step (f := fun k => _) (fun k => by rw [spec_AliveAges.j0]) (ifp rfl now)
    · exact Ev.step (f := fun k => _) (fun k => by rw [impl_AliveAges.j0]) (ifp rfl now)
theorem FnExactAliveAges : laws_FnExactAliveAges.Pure := by
  intro l a hl hb _ _
  refine Ev.rounds ?_
  unfold laws_FnExactAliveAges.f
  refine call (szKinS l (by omega)) ?_
  by_cases hs : l.length ≤ 1048576
  · have hl' : l.length ≤ 1099511627776 := by omega
    have hcl : (conv l).length ≤ 1048576 := by rw [conv_length]; exact hs
    have hc' : (conv l).length ≤ 1099511627776 := by omega
    rw [if_pos hs]
    refine ifn (by omega) ?_
    obtain ⟨v, hv, e1, e2⟩ := AliveAges_both (conv l) hcl a
    refine Ev.bind (toKinS l hl') (Ev.bind e1 (Ev.bind (toKinS l hl') (Ev.bind e2 (Ev.bind (eqIntS v.1 (by omega)) (ifp rfl ?_)))))
    refine Ev.step (f := fun k => _) (fun k => by rw [laws_FnExactAliveAges.j0]) (ifn (by simp) ?_)
    refine Ev.bind (toKinS l hl') (Ev.bind (eqKinS (conv l) hc') (ifp rfl ?_))
    refine Ev.bind (markKinS (conv l) hc' 1 (by decide)) (ifn (by omega) ?_)
    refine Ev.bind (eqIntS v.1 (by omega)) (ifp rfl ?_)
    refine Ev.step (f := fun k => _) (fun k => by rw [laws_FnExactAliveAges.j1]) (ifn (by simp) ?_)
    refine Ev.bind (markIntS v.1 (by omega) 1 (by decide)) (Ev.bind (heldIntS v.1.length (by omega) 1 (by decide)) (ifn (by omega) (ifp rfl ?_)))
    refine Ev.bind (toKinS l hl') (Ev.bind e2 (Ev.bind (eqIntS v.1 (by omega)) (ifp rfl ?_)))
    refine Ev.step (f := fun k => _) (fun k => by rw [laws_FnExactAliveAges.j2]) (ifn (by simp) ?_)
    exact Ev.bind (heldIntS v.1.length (by omega) 1 (by decide)) (ifn (by omega) (ifp rfl now))
  · rw [if_neg hs]
    exact ifp (by omega) now
end Go.Proofs.Ytooeliiolcolaaa.Pure
