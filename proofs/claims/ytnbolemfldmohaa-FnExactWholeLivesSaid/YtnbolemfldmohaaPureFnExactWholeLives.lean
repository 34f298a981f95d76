/- The program's WholeLives tells what the reference's tells, for all parts, and leaves what it is handed. No condition. -/
import Derived.Test.YtnbolemfldmohaaPx9
import Derived.Test.YtnbolemfldmohaaPx2
import Derived.Test.YtnbolemfldmohaaPxHimplqWholeLives
import Derived.Test.YtnbolemfldmohaaRlP
import Derived.Test.YtnbolemfldmohaaRlM
import Derived.Test.YtnbolemfldmohaaPrS
namespace Go.Proofs.Ytnbolemfldmohaa.Pure
open Go.RowKit Go.Proofs.Ytnbolemfldmohaa.P Go.Proofs.Ytnbolemfldmohaa.Pr Go.Proofs.Ytnbolemfldmohaa.E Go.Proofs.YtnbolemfldmohaaW.PrintWords
abbrev upto := impl_WholeLives.to
theorem lives_l1 (l : List Rt) (hc : (1 ≤ l.length ∧ l.length ≤ 6) ∧ ∀ x ∈ l, 1 ≤ x.f0 ∧ x.f0 ≤ 100 ∧ 1 ≤ x.f1 ∧ x.f1 ≤ 100) (r : List Int × Bool) (i : Nat) (hi : i < 200) (hr : Ev (fun k => spec_WholeLives.l0 k l (upto l (i + 1)) ((i : Int) + 1 + 1)) r) (n : Nat) :
    ∀ (j : Nat) (b : Bool), j ≤ l.length → l.length - j ≤ n → l.any (impl_WholeLives.odd ((i : Int) + 1)) = !(b && (l.drop j).all fun x => !(impl_WholeLives.odd ((i : Int) + 1) x)) → Ev (fun k => spec_WholeLives.l1 k l (upto l i) ((i : Int) + 1) b l (l.length : Int) (j : Int)) r := by
  have hl := hc.1.2
  have hto := impl_WholeLives.to_len l i
  have stop : ∀ b : Bool, l.any (impl_WholeLives.odd ((i : Int) + 1)) = !(b && (l.drop l.length).all fun x => !(impl_WholeLives.odd ((i : Int) + 1) x)) → Ev (fun k => spec_WholeLives.l1 k l (upto l i) ((i : Int) + 1) b l (l.length : Int) (l.length : Int)) r := by
    intro b hb
    rw [List.drop_length, List.all_nil, Bool.and_true] at hb
    have hs := impl_WholeLives.to_succ l i
    rw [hb] at hs
    refine Ev.step (f := fun k => _) (fun k => by rw [spec_WholeLives.l1]) (ifn (by omega) ?_)
    rw [w64 _ (by omega)]
    cases b with
    | true =>
      refine ifp rfl (ifp (by show (impl_WholeLives.to l i).length < _; omega) ?_)
      rw [show upto l i ++ [(i : Int) + 1] = upto l (i + 1) from (hs.trans (if_neg (by decide))).symm]
      exact hr
    | false =>
      refine ifn (by simp) ?_
      rw [show upto l i = upto l (i + 1) from (hs.trans (if_pos rfl)).symm]
      exact hr
  induction n with
  | zero =>
    intro j b h1 h2 hb
    obtain rfl : j = l.length := by omega
    exact stop b hb
  | succ n ih =>
    intro j b h1 h2 hb
    by_cases hj : j < l.length
    · have hx := hc.2 l[j] (List.getElem_mem hj)
      have bb := mulb ((i : Int) + 1) l[j].f0 200 100 (by omega) (by omega)
      refine Ev.step (f := fun k => _) (fun k => by rw [spec_WholeLives.l1]) (ifp (by omega) (ifp (by omega) (ifp (by omega) ?_)))
      rw [rdR_get l j hj, w64 ((j : Int) + 1) (by omega)]
      rw [List.drop_eq_getElem_cons hj, List.all_cons] at hb
      cases b with
      | true =>
        refine ifp rfl (ifn (by omega) ?_)
        rw [w64 _ (by omega)]
        refine ih (j + 1) _ (by omega) (by omega) ?_
        rw [hb]
        unfold impl_WholeLives.odd
        rw [Bool.true_and, Bool.not_not]
      | false =>
        refine ifn (by simp) (ih (j + 1) false (by omega) (by omega) ?_)
        rw [hb]; simp
    · obtain rfl : j = l.length := by omega
      exact stop b hb
theorem lives_l (l : List Rt) (hc : (1 ≤ l.length ∧ l.length ≤ 6) ∧ ∀ x ∈ l, 1 ≤ x.f0 ∧ x.f0 ≤ 100 ∧ 1 ≤ x.f1 ∧ x.f1 ≤ 100) (n : Nat) : ∀ i : Nat, i ≤ 200 → 200 - i ≤ n → Ev (fun k => spec_WholeLives.l0 k l (upto l i) ((i : Int) + 1)) (upto l 200, true) := by
  have stop : Ev (fun k => spec_WholeLives.l0 k l (upto l 200) (((200 : Nat) : Int) + 1)) (upto l 200, true) :=
    Ev.step (f := fun k => _) (fun k => by rw [spec_WholeLives.l0]) (ifn (by omega) now)
  induction n with
  | zero =>
    intro i h1 h2
    obtain rfl : i = 200 := by omega
    exact stop
  | succ n ih =>
    intro i h1 h2
    by_cases hi : i < 200
    · refine Ev.step (f := fun k => _) (fun k => by rw [spec_WholeLives.l0]) (ifp (by omega) ?_)
      refine lives_l1 l hc _ i hi (ih (i + 1) (by omega) (by omega)) _ 0 true (by omega) (Nat.le_refl _) ?_
      rw [List.drop_zero, Bool.true_and, List.not_all_eq_any_not]
      simp
    · obtain rfl : i = 200 := by omega
      exact stop
theorem WholeLives_both (l : List Rt) (hl : l.length ≤ 1048576) : ∃ v : List Int × Bool, v.1.length ≤ 1048576 ∧ Ev (fun k => spec_WholeLives.f k l) v ∧ Ev (fun k => impl_WholeLives.f k l) v := by
  unfold spec_WholeLives.f impl_WholeLives.f
  rcases life l (by omega) with ⟨e1, e2⟩ | ⟨hc, n, d, hb, p1, p2, e1, e2⟩
  · exact ⟨([], false), by simp, Ev.bind e1 (ifn (by simp) now), Ev.bind e2 (ifn (by simp) now)⟩
  · refine ⟨(upto l 200, true), ?_, Ev.bind e1 (ifp rfl ?_), Ev.bind e2 (ifp rfl now)⟩
    · have := impl_WholeLives.to_len l 200
      show (impl_WholeLives.to l 200).length ≤ _
      omega
    · exact lives_l l ((chain_iff l).1 hc) _ 0 (by omega) (Nat.le_refl _)
theorem FnExactWholeLives : laws_FnExactWholeLives.Pure := by
  intro l hl hb _
  refine Ev.rounds ?_
  unfold laws_FnExactWholeLives.f
  refine call (szRatioS l (by omega)) ?_
  by_cases hs : l.length ≤ 1048576
  · have hl' : l.length ≤ 1099511627776 := by omega
    have hcl : (conv l).length ≤ 1048576 := by rw [conv_length]; exact hs
    have hc' : (conv l).length ≤ 1099511627776 := by omega
    rw [if_pos hs]
    refine ifn (by omega) ?_
    obtain ⟨v, hv, e1, e2⟩ := WholeLives_both (conv l) hcl
    refine Ev.bind (toRatioS l hl') (Ev.bind e1 (Ev.bind (toRatioS l hl') (Ev.bind e2 (Ev.bind (eqIntS v.1 (by omega)) (ifp rfl ?_)))))
    refine Ev.step (f := fun k => _) (fun k => by rw [laws_FnExactWholeLives.j0]) (ifn (by simp) ?_)
    refine Ev.bind (toRatioS l hl') (Ev.bind (eqRatioS (conv l) hc') (ifp rfl ?_))
    refine Ev.bind (markRatioS (conv l) hc' 1 (by decide)) (ifn (by omega) ?_)
    refine Ev.bind (eqIntS v.1 (by omega)) (ifp rfl ?_)
    refine Ev.step (f := fun k => _) (fun k => by rw [laws_FnExactWholeLives.j1]) (ifn (by simp) ?_)
    refine Ev.bind (markIntS v.1 (by omega) 1 (by decide)) (Ev.bind (heldIntS v.1.length (by omega) 1 (by decide)) (ifn (by omega) (ifp rfl ?_)))
    refine Ev.bind (toRatioS l hl') (Ev.bind e2 (Ev.bind (eqIntS v.1 (by omega)) (ifp rfl ?_)))
    refine Ev.step (f := fun k => _) (fun k => by rw [laws_FnExactWholeLives.j2]) (ifn (by simp) ?_)
    exact Ev.bind (heldIntS v.1.length (by omega) 1 (by decide)) (ifn (by omega) (ifp rfl now))
  · rw [if_neg hs]
    exact ifp (by omega) now
end Go.Proofs.Ytnbolemfldmohaa.Pure
