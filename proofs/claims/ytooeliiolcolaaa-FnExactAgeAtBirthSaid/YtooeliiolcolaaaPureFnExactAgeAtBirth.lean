/- The program's AgeAtBirth tells what the reference's tells, for every family and any two, and leaves what it is handed. No condition. -/
import Derived.Test.YtooeliiolcolaaaPx14
import Derived.Test.YtooeliiolcolaaaPx10
import Derived.Test.YtooeliiolcolaaaFaD
namespace Go.Proofs.Ytooeliiolcolaaa.Pure
open Go.RowKit Go.Proofs.Ytooeliiolcolaaa.P Go.Proofs.Ytooeliiolcolaaa.Pr Go.Proofs.Ytooeliiolcolaaa.E Go.Proofs.YtooeliiolcolaaaW.PrintWords
theorem AgeAtBirth_both (l : List Kn) (hl : l.length ≤ 1048576) (a : Int) (b : Int) : ∃ v, Ev (fun k => spec_AgeAtBirth.f k l a b) v ∧ Ev (fun k => impl_AgeAtBirth.f k l a b) v := by
  unfold spec_AgeAtBirth.f impl_AgeAtBirth.f
  by_cases h : good l = true ∧ inR l a = true ∧ inR l b = true
  · have ha := (inR_iff l a).1 h.2.1
    have hb := (inR_iff l b).1 h.2.2
    have hf := (good_iff l).1 h.1
    have hw := faTwo l (by omega) a b
    rw [h.1, h.2.1, h.2.2] at hw
    have hk := hasKin l (by omega) [a, b]
    rw [h.1, show ([a, b] : List Int).all (inR l) = true by simp [h.2]] at hk
    have hs := faParentsI l b hb
    have hh := l1Has a (pp l b) (Nat.le_trans (ps_len _) (by decide))
    have hp : Ev (fun k => impl_isParent.f k l a b) ((pp l b).contains a) := by
      unfold impl_isParent.f
      refine ifp hb.1 (ifp hb.2 (call (parents_f (rdK l b)) (Ev.bind (contains _ (Nat.le_trans (ps_len _) (by decide)) a) now)))
    cases hc : (pp l b).contains a with
    | true =>
      rw [hc] at hh hp
      refine ⟨_, Ev.bind hw (ifp rfl (Ev.bind hs (Ev.bind hh (ifp rfl (ifp hb.1 (ifp hb.2 (ifp ha.1 (ifp ha.2 now)))))))), Ev.bind hk (ifp rfl (Ev.bind hp (ifp rfl (ifp hb.1 (ifp hb.2 (ifp ha.1 (ifp ha.2 now)))))))⟩
    | false =>
      rw [hc] at hh hp
      exact ⟨(0, false), Ev.bind hw (ifp rfl (Ev.bind hs (Ev.bind hh (ifn (by simp) now)))), Ev.bind hk (ifp rfl (Ev.bind hp (ifn (by simp) now)))⟩
  · have hn : (good l && (inR l a && inR l b)) = false := by
      rw [Bool.eq_false_iff]
      intro h2
      have h3 := Bool.and_eq_true_iff.1 h2
      exact h ⟨h3.1, Bool.and_eq_true_iff.1 h3.2⟩
    have hw := faTwo l (by omega) a b
    rw [hn] at hw
    have hk := hasKin l (by omega) [a, b]
    rw [show ([a, b] : List Int).all (inR l) = (inR l a && inR l b) by simp, hn] at hk
    exact ⟨(0, false), Ev.bind hw (ifn (by simp) now), Ev.bind hk (ifn (by simp) now)⟩
theorem FnExactAgeAtBirth : laws_FnExactAgeAtBirth.Pure := by
  intro l a b hl hb _ _ _
  refine Ev.rounds ?_
  unfold laws_FnExactAgeAtBirth.f
  refine call (szKinS l (by omega)) ?_
  by_cases hs : l.length ≤ 1048576
  · have hl' : l.length ≤ 1099511627776 := by omega
    have hcl : (conv l).length ≤ 1048576 := by rw [conv_length]; exact hs
    have hc' : (conv l).length ≤ 1099511627776 := by omega
    rw [if_pos hs]
    refine ifn (by omega) ?_
    obtain ⟨v, e1, e2⟩ := AgeAtBirth_both (conv l) hcl a b
    refine Ev.bind (toKinS l hl') (Ev.bind e1 (Ev.bind (toKinS l hl') (Ev.bind e2 ?_)))
    refine ifp rfl ?_
    refine Ev.step (f := fun k => _) (fun k => by rw [laws_FnExactAgeAtBirth.j0]) (ifn (by simp) ?_)
    exact Ev.bind (toKinS l hl') (Ev.bind (eqKinS (conv l) hc') (ifp rfl now))
  · rw [if_neg hs]
    exact ifp (by omega) now
end Go.Proofs.Ytooeliiolcolaaa.Pure
