/- The program's ChildrenOf tells what the reference's tells, for every family and any of it, and leaves what it is handed. No condition. -/
import Derived.Test.YtooeliiolcolaaaPx12
import Derived.Test.YtooeliiolcolaaaPx11
import Derived.Test.YtooeliiolcolaaaFaK
import Derived.Test.YtooeliiolcolaaaFaB
import Derived.Test.YtooeliiolcolaaaPrS
import Derived.Test.YtooeliiolcolaaaPrM
namespace Go.Proofs.Ytooeliiolcolaaa.Pure
open Go.RowKit Go.Proofs.Ytooeliiolcolaaa.P Go.Proofs.Ytooeliiolcolaaa.Pr Go.Proofs.Ytooeliiolcolaaa.E Go.Proofs.YtooeliiolcolaaaW.PrintWords
theorem ChildrenOf_both (l : List Kn) (hl : l.length ≤ 1048576) (a : Int) : ∃ v, v.1.length ≤ 1048576 ∧ Ev (fun k => spec_ChildrenOf.f k l a) v ∧ Ev (fun k => impl_ChildrenOf.f k l a) v := by
  unfold spec_ChildrenOf.f impl_ChildrenOf.f
  by_cases h : good l = true ∧ inR l a = true
  · have hr := (inR_iff l a).1 h.2
    have hf := (good_iff l).1 h.1
    have hw := faWho l (by omega) a
    rw [h.1, h.2] at hw
    have hk := hasKin l (by omega) [a]
    rw [h.1, show ([a] : List Int).all (inR l) = true by simp [h.2]] at hk
    refine ⟨(kids l a, true), Nat.le_trans (kids_len l a) hl, Ev.bind hw (ifp rfl ?_), Ev.bind hk (ifp rfl ?_)⟩
    · exact Ev.bind (faChildren l (by omega) a) now
    · exact Ev.bind (children l (by omega) a) now
  · have hn : (good l && inR l a) = false := by
      rw [Bool.eq_false_iff]
      intro h2
      exact h (Bool.and_eq_true_iff.1 h2)
    have hw := faWho l (by omega) a
    rw [hn] at hw
    have hk := hasKin l (by omega) [a]
    rw [show ([a] : List Int).all (inR l) = inR l a by simp, hn] at hk
    exact ⟨([], false), by simp, Ev.bind hw (ifn (by simp) now), Ev.bind hk (ifn (by simp) now)⟩
theorem FnExactChildrenOf : laws_FnExactChildrenOf.Pure := by
  intro l a hl hb _ _
  refine Ev.rounds ?_
  unfold laws_FnExactChildrenOf.f
  refine call (szKinS l (by omega)) ?_
  by_cases hs : l.length ≤ 1048576
  · have hl' : l.length ≤ 1099511627776 := by omega
    have hcl : (conv l).length ≤ 1048576 := by rw [conv_length]; exact hs
    have hc' : (conv l).length ≤ 1099511627776 := by omega
    rw [if_pos hs]
    refine ifn (by omega) ?_
    obtain ⟨v, hv, e1, e2⟩ := ChildrenOf_both (conv l) hcl a
    refine Ev.bind (toKinS l hl') (Ev.bind e1 (Ev.bind (toKinS l hl') (Ev.bind e2 (Ev.bind (eqIntS v.1 (by omega)) (ifp rfl ?_)))))
    refine Ev.step (f := fun k => _) (fun k => by rw [laws_FnExactChildrenOf.j0]) (ifn (by simp) ?_)
    refine Ev.bind (toKinS l hl') (Ev.bind (eqKinS (conv l) hc') (ifp rfl ?_))
    refine Ev.bind (markKinS (conv l) hc' 1 (by decide)) (ifn (by omega) ?_)
    refine Ev.bind (eqIntS v.1 (by omega)) (ifp rfl ?_)
    refine Ev.step (f := fun k => _) (fun k => by rw [laws_FnExactChildrenOf.j1]) (ifn (by simp) ?_)
    refine Ev.bind (markIntS v.1 (by omega) 1 (by decide)) (Ev.bind (heldIntS v.1.length (by omega) 1 (by decide)) (ifn (by omega) (ifp rfl ?_)))
    refine Ev.bind (toKinS l hl') (Ev.bind e2 (Ev.bind (eqIntS v.1 (by omega)) (ifp rfl ?_)))
    refine Ev.step (f := fun k => _) (fun k => by rw [laws_FnExactChildrenOf.j2]) (ifn (by simp) ?_)
    exact Ev.bind (heldIntS v.1.length (by omega) 1 (by decide)) (ifn (by omega) (ifp rfl now))
  · rw [if_neg hs]
    exact ifp (by omega) now
end Go.Proofs.Ytooeliiolcolaaa.Pure
