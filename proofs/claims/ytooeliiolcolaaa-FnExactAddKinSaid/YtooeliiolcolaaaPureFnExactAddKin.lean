/- The program's AddKin tells what the reference's tells, for every list and newcomer, and leaves what it is handed. No condition. -/
import Derived.Test.YtooeliiolcolaaaPx12
import Derived.Test.YtooeliiolcolaaaPx10
import Derived.Test.YtooeliiolcolaaaFaB
import Derived.Test.YtooeliiolcolaaaPrM
namespace Go.Proofs.Ytooeliiolcolaaa.Pure
open Go.RowKit Go.Proofs.Ytooeliiolcolaaa.P Go.Proofs.Ytooeliiolcolaaa.Pr Go.Proofs.Ytooeliiolcolaaa.E Go.Proofs.YtooeliiolcolaaaW.PrintWords
theorem Fits_app (l : List Kn) (x : Kn) (i : Nat) (hi : i ≤ l.length) (k : Kn) : Fits (l ++ [x]) i k ↔ Fits l i k := by
  rw [← Fits_take (l ++ [x]) i (by simp; omega) k, ← Fits_take l i hi k, List.take_append_of_le_length hi]
theorem Fam_app (l : List Kn) (x : Kn) (hf : Fam l) : Fam (l ++ [x]) ↔ l.length ≠ 14 ∧ Fits l l.length x := by
  constructor
  · rintro ⟨h1, h2⟩
    rw [List.length_append, List.length_singleton] at h1
    refine ⟨by omega, ?_⟩
    have h3 := h2 l.length (by simp)
    rw [Fits_app l x _ (Nat.le_refl _), List.getElem_append_right (Nat.le_refl _)] at h3
    simpa using h3
  · rintro ⟨h1, h2⟩
    have h14 := hf.1.2
    refine ⟨by rw [List.length_append, List.length_singleton]; omega, ?_⟩
    intro i hi
    rw [List.length_append, List.length_singleton] at hi
    by_cases e : i < l.length
    · rw [List.getElem_append_left e, Fits_app l x i (by omega)]
      exact hf.2 i e
    · obtain rfl : i = l.length := by omega
      rw [Fits_app l x _ (Nat.le_refl _), List.getElem_append_right (Nat.le_refl _)]
      simpa using h2
theorem Fam_years (l : List Kn) (hf : Fam l) : Years l := fun i hi => (hf.2 i hi).1
theorem AddKin_both (l : List Kn) (hl : l.length ≤ 1048576) (a b c : Int) : ∃ v : List Kn × Bool, v.1.length ≤ 1048577 ∧ Ev (fun k => spec_AddKin.f k l a b c) v ∧ Ev (fun k => impl_AddKin.f k l a b c) v := by
  unfold spec_AddKin.f impl_AddKin.f
  have hw := faGood l (by omega)
  have hk := isFamily l (by omega)
  cases h : good l with
  | true =>
    have hf := (good_iff l).1 h
    rw [h] at hw hk
    have hfits := faFits l ⟨a, b, c⟩ (Fam_years l hf) (by omega)
    have hc : impl_Kin.f l = some l := if_pos (by omega)
    have hi := isFamily (l ++ [(⟨a, b, c⟩ : Kn)]) (by simp; omega)
    have hor : Ev (fun k => impl_familyOr.f k (l ++ [(⟨a, b, c⟩ : Kn)])) (if good (l ++ [(⟨a, b, c⟩ : Kn)]) = true then (l ++ [(⟨a, b, c⟩ : Kn)], true) else ([], false)) := by
      unfold impl_familyOr.f
      refine Ev.bind hi ?_
      by_cases e : good (l ++ [(⟨a, b, c⟩ : Kn)]) = true
      · exact ifp e (evEq now (if_pos e).symm)
      · exact ifn e (evEq now (if_neg e).symm)
    have himp : Ev (fun k => (impl_Kin.f l).bind fun t226 => ((some (([(⟨a, b, c⟩ : Kn)] : List Kn) : List Kn)).bind fun y229 => (if t226.length + y229.length < 5864062014805 then ((impl_familyOr.f k (t226 ++ y229)).bind fun bt235 => (some (bt235.1, bt235.2))) else (none)))) (if good (l ++ [(⟨a, b, c⟩ : Kn)]) = true then (l ++ [(⟨a, b, c⟩ : Kn)], true) else ([], false)) := by
      refine call hc ?_
      refine ifp (by simp; omega) ?_
      exact Ev.bind hor now
    refine ⟨_, ?_, ?_, Ev.bind hk (ifp rfl himp)⟩
    · split
      · simp; omega
      · simp
    · refine Ev.bind hw (ifp rfl ?_)
      by_cases e14 : (l.length : Int) = 14
      · have hn : ¬ good (l ++ [(⟨a, b, c⟩ : Kn)]) = true := by
          rw [good_iff, Fam_app l _ hf]
          omega
        rw [if_neg hn]
        exact ifp e14 now
      · refine ifn e14 (call hfits ?_)
        by_cases hq : Fits l l.length ⟨a, b, c⟩
        · have hg : good (l ++ [(⟨a, b, c⟩ : Kn)]) = true := by
            rw [good_iff, Fam_app l _ hf]
            exact ⟨by omega, hq⟩
          rw [if_pos hg]
          refine ifp (by simpa using hq) ?_
          refine ifp (by simp; omega) ?_
          refine ifp (by simp; omega) ?_
          exact now
        · have hn : ¬ good (l ++ [(⟨a, b, c⟩ : Kn)]) = true := by
            rw [good_iff, Fam_app l _ hf]
            exact fun h => hq h.2
          rw [if_neg hn]
          exact ifn (by simpa using hq) now
  | false =>
    rw [h] at hw hk
    exact ⟨([], false), by simp, Ev.bind hw (ifn (by simp) now), Ev.bind hk (ifn (by simp) now)⟩
theorem FnExactAddKin : laws_FnExactAddKin.Pure := by
  intro l a b c hl hb _ _ _ _
  refine Ev.rounds ?_
  unfold laws_FnExactAddKin.f
  refine call (szKinS l (by omega)) ?_
  by_cases hs : l.length ≤ 1048576
  · have hl' : l.length ≤ 1099511627776 := by omega
    have hcl : (conv l).length ≤ 1048576 := by rw [conv_length]; exact hs
    have hc' : (conv l).length ≤ 1099511627776 := by omega
    have ht : laws_toKin.f a b c = some (a, b, c) := rfl
    rw [if_pos hs]
    refine ifn (by omega) ?_
    obtain ⟨v, hv, e1, e2⟩ := AddKin_both (conv l) hcl a b c
    refine Ev.bind (toKinS l hl') (call ht ?_)
    refine Ev.bind e1 ?_
    refine Ev.bind (toKinS l hl') (call ht ?_)
    refine Ev.bind e2 (Ev.bind (eqKinS v.1 (by omega)) (ifp rfl ?_))
    refine Ev.step (f := fun k => _) (fun k => by rw [laws_FnExactAddKin.j0]) (ifn (by simp) ?_)
    refine Ev.bind (toKinS l hl') (Ev.bind (eqKinS (conv l) hc') (ifp rfl ?_))
    refine Ev.bind (markKinS (conv l) hc' 1 (by decide)) (ifn (by omega) ?_)
    refine Ev.bind (eqKinS v.1 (by omega)) (ifp rfl ?_)
    refine Ev.step (f := fun k => _) (fun k => by rw [laws_FnExactAddKin.j1]) (ifn (by simp) ?_)
    refine Ev.bind (markKinS v.1 (by omega) 1 (by decide)) (Ev.bind (heldKinS v.1.length (by omega) 1 (by decide)) (ifn (by omega) (ifp rfl ?_)))
    refine Ev.bind (toKinS l hl') (call ht ?_)
    refine Ev.bind e2 (Ev.bind (eqKinS v.1 (by omega)) (ifp rfl ?_))
    refine Ev.step (f := fun k => _) (fun k => by rw [laws_FnExactAddKin.j2]) (ifn (by simp) ?_)
    exact Ev.bind (heldKinS v.1.length (by omega) 1 (by decide)) (ifn (by omega) (ifp rfl now))
  · rw [if_neg hs]
    exact ifp (by omega) now
end Go.Proofs.Ytooeliiolcolaaa.Pure
