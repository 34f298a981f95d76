/- The loop that picks the youngest parent, on both sides. Condition: fewer than 2^30 kin. -/
import Derived.Test.YtooeliiolcolaaaPx8
import Derived.Test.YtooeliiolcolaaaFaK
namespace Go.Proofs.Ytooeliiolcolaaa.Pr
open Go.RowKit Go.Proofs.Ytooeliiolcolaaa.P Go.Proofs.YtooeliiolcolaaaW.PrintWords Go.Proofs.Ytooeliiolcolaaa.E
theorem young_l1 (l : List Kn) (i : Nat) (hi : i < l.length) (L : List Int) (hL : L.length ≤ 1000000000) (hv : ∀ p ∈ L, 0 ≤ p ∧ p < (l.length : Int)) (hr : ∀ a b c : Int, ∃ v, Ev (fun k => spec_YoungestParent.l0 k l a b c (l.length : Int) (wrap64 ((i : Int) + 1))) v ∧ Ev (fun k => impl_YoungestParent.l0 k l a b c (l.length : Int) (wrap64 ((i : Int) + 1))) v)
    (n : Nat) : ∀ (j : Nat) (a b c : Int), j ≤ L.length → L.length - j ≤ n → ∃ v, Ev (fun k => spec_YoungestParent.l1 k l a b c (i : Int) (l.length : Int) (i : Int) L (L.length : Int) (j : Int)) v ∧ Ev (fun k => impl_YoungestParent.l1 k l a b c (i : Int) (l.length : Int) (i : Int) L (L.length : Int) (j : Int)) v := by
  have stop : ∀ a b c : Int, ∃ v, Ev (fun k => spec_YoungestParent.l1 k l a b c (i : Int) (l.length : Int) (i : Int) L (L.length : Int) (L.length : Int)) v ∧ Ev (fun k => impl_YoungestParent.l1 k l a b c (i : Int) (l.length : Int) (i : Int) L (L.length : Int) (L.length : Int)) v := by
    intro a b c
    obtain ⟨v, e1, e2⟩ := hr a b c
    refine ⟨v, ?_, ?_⟩
    · exact Ev.step (f := fun k => _) (fun k => by rw [spec_YoungestParent.l1]) (ifn (by omega) e1)
    · exact Ev.step (f := fun k => _) (fun k => by rw [impl_YoungestParent.l1]) (ifn (by omega) e2)
  induction n with
  | zero =>
    intro j a b c h1 h2
    obtain rfl : j = L.length := by omega
    exact stop a b c
  | succ n ih =>
    intro j a b c h1 h2
    by_cases hj : j < L.length
    · have hp := hv L[j] (List.getElem_mem hj)
      have key : ∀ (a' b' c' : Int), (∀ k, spec_YoungestParent.l1 (k + 1) l a b c (i : Int) (l.length : Int) (i : Int) L (L.length : Int) (j : Int) = spec_YoungestParent.l1 k l a' b' c' (i : Int) (l.length : Int) (i : Int) L (L.length : Int) ((j + 1 : Nat) : Int)) → (∀ k, impl_YoungestParent.l1 (k + 1) l a b c (i : Int) (l.length : Int) (i : Int) L (L.length : Int) (j : Int) = impl_YoungestParent.l1 k l a' b' c' (i : Int) (l.length : Int) (i : Int) L (L.length : Int) ((j + 1 : Nat) : Int)) →
          ∃ v, Ev (fun k => spec_YoungestParent.l1 k l a b c (i : Int) (l.length : Int) (i : Int) L (L.length : Int) (j : Int)) v ∧ Ev (fun k => impl_YoungestParent.l1 k l a b c (i : Int) (l.length : Int) (i : Int) L (L.length : Int) (j : Int)) v := by
        intro a' b' c' q1 q2
        obtain ⟨v, e1, e2⟩ := ih (j + 1) a' b' c' (by omega) (by omega)
        exact ⟨v, Ev.step q1 e1, Ev.step q2 e2⟩
      by_cases hc : c < 0
      · refine key i L[j] (wrap64 ((rdK l L[j]).f0 - (rdK l i).f0)) (fun k => ?_) (fun k => ?_)
        · rw [spec_YoungestParent.l1, if_pos (by omega), if_pos (by omega), if_pos (by omega), rdI L j hj, if_pos hp.1, if_pos hp.2, if_pos (by omega), if_pos (by omega), if_pos hc, w64 ((j : Int) + 1) (by omega)]; rfl
        · rw [impl_YoungestParent.l1, if_pos (by omega), if_pos (by omega), if_pos (by omega), rdI L j hj, if_pos hp.1, if_pos hp.2, if_pos (by omega), if_pos (by omega), if_pos hc, w64 ((j : Int) + 1) (by omega)]; rfl
      · by_cases hd : wrap64 (((rdK l L[j]).f0) - ((rdK l i).f0)) < c
        · refine key i L[j] (wrap64 ((rdK l L[j]).f0 - (rdK l i).f0)) (fun k => ?_) (fun k => ?_)
          · rw [spec_YoungestParent.l1, if_pos (by omega), if_pos (by omega), if_pos (by omega), rdI L j hj, if_pos hp.1, if_pos hp.2, if_pos (by omega), if_pos (by omega), if_neg hc, if_pos hd, w64 ((j : Int) + 1) (by omega)]; rfl
          · rw [impl_YoungestParent.l1, if_pos (by omega), if_pos (by omega), if_pos (by omega), rdI L j hj, if_pos hp.1, if_pos hp.2, if_pos (by omega), if_pos (by omega), if_neg hc, if_pos hd, w64 ((j : Int) + 1) (by omega)]; rfl
        · refine key a b c (fun k => ?_) (fun k => ?_)
          · rw [spec_YoungestParent.l1, if_pos (by omega), if_pos (by omega), if_pos (by omega), rdI L j hj, if_pos hp.1, if_pos hp.2, if_pos (by omega), if_pos (by omega), if_neg hc, if_neg hd, w64 ((j : Int) + 1) (by omega)]; rfl
          · rw [impl_YoungestParent.l1, if_pos (by omega), if_pos (by omega), if_pos (by omega), rdI L j hj, if_pos hp.1, if_pos hp.2, if_pos (by omega), if_pos (by omega), if_neg hc, if_neg hd, w64 ((j : Int) + 1) (by omega)]; rfl
    · obtain rfl : j = L.length := by omega
      exact stop a b c
theorem young_l (l : List Kn) (hl : l.length ≤ 1000000000) (n : Nat) : ∀ (i : Nat) (a b c : Int), i ≤ l.length → l.length - i ≤ n → ∃ v, Ev (fun k => spec_YoungestParent.l0 k l a b c (l.length : Int) (i : Int)) v ∧ Ev (fun k => impl_YoungestParent.l0 k l a b c (l.length : Int) (i : Int)) v := by
  have stop : ∀ a b c : Int, ∃ v, Ev (fun k => spec_YoungestParent.l0 k l a b c (l.length : Int) (l.length : Int)) v ∧ Ev (fun k => impl_YoungestParent.l0 k l a b c (l.length : Int) (l.length : Int)) v := by
    intro a b c
    refine ⟨(a, b, decide (c ≥ 0)), ?_, ?_⟩
    · exact Ev.step (f := fun k => _) (fun k => by rw [spec_YoungestParent.l0]) (ifn (by omega) now)
    · exact Ev.step (f := fun k => _) (fun k => by rw [impl_YoungestParent.l0]) (ifn (by omega) now)
  induction n with
  | zero =>
    intro i a b c h1 h2
    obtain rfl : i = l.length := by omega
    exact stop a b c
  | succ n ih =>
    intro i a b c h1 h2
    by_cases hi : i < l.length
    · have hr : ∀ a b c : Int, ∃ v, Ev (fun k => spec_YoungestParent.l0 k l a b c (l.length : Int) (wrap64 ((i : Int) + 1))) v ∧ Ev (fun k => impl_YoungestParent.l0 k l a b c (l.length : Int) (wrap64 ((i : Int) + 1))) v := by
        intro a b c
        rw [w64 _ (by omega)]
        exact ih (i + 1) a b c (by omega) (by omega)
      obtain ⟨v, e1, e2⟩ := young_l1 l i hi (kids l i) (Nat.le_trans (kids_len l i) hl) (kids_mem l i) hr _ 0 a b c (by omega) (Nat.le_refl _)
      refine ⟨v, ?_, ?_⟩
      · exact Ev.step (f := fun k => _) (fun k => by rw [spec_YoungestParent.l0]) (ifp (by omega) (Ev.bind (faChildren l (by omega) i) e1))
      · exact Ev.step (f := fun k => _) (fun k => by rw [impl_YoungestParent.l0]) (ifp (by omega) (Ev.bind (children l (by omega) i) e2))
    · obtain rfl : i = l.length := by omega
      exact stop a b c
end Go.Proofs.Ytooeliiolcolaaa.Pr
