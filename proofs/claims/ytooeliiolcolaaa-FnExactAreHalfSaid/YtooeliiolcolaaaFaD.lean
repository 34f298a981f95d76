/- Common parents, siblings, aunts and cousins, on both sides. Condition: at most two parents each. -/
import Derived.Test.YtooeliiolcolaaaPx29
import Derived.Test.YtooeliiolcolaaaPx33
import Derived.Test.YtooeliiolcolaaaPx34
import Derived.Test.YtooeliiolcolaaaPxHimplqisAunt
import Derived.Test.YtooeliiolcolaaaPxHimplqareCousins
import Derived.Test.YtooeliiolcolaaaPx35
import Derived.Test.YtooeliiolcolaaaFaC
namespace Go.Proofs.Ytooeliiolcolaaa.Pr
open Go.RowKit Go.Proofs.Ytooeliiolcolaaa.P Go.Proofs.YtooeliiolcolaaaW.PrintWords Go.Proofs.Ytooeliiolcolaaa.E
/-- The parents of somebody. -/
abbrev pp (l : List Kn) (i : Int) : List Int := ps (rdK l i)
theorem faParentsI (l : List Kn) (i : Int) (h : 0 ≤ i ∧ i < (l.length : Int)) : Ev (fun k => spec_faParents.f k l i) (pp l i) := by
  obtain ⟨h2, e2⟩ := rdK_int l i h.1 h.2
  have := faParents l i.toNat h2
  rw [Int.toNat_of_nonneg h.1] at this
  show Ev _ (ps (rd_T36 l i))
  rw [e2]
  exact this
def shared (l : List Kn) (a b : Int) : List Int := (pp l a).filter fun x => (pp l b).contains x
theorem shared_len (l : List Kn) (a b : Int) : (shared l a b).length ≤ 2 := Nat.le_trans (List.length_filter_le _ _) (ps_len _)
theorem faShared_l (l : List Kn) (b : Int) (hb : 0 ≤ b ∧ b < (l.length : Int)) (L : List Int) (hL : L.length ≤ 1000) (n : Nat) : ∀ (i : Nat) (c : Nat), i ≤ L.length → L.length - i ≤ n → c ≤ i →
    Ev (fun k => spec_faShared.l0 k l b (c : Int) L (L.length : Int) (i : Int)) ((c + ((L.drop i).filter fun x => (pp l b).contains x).length : Nat) : Int) := by
  have stop : ∀ c : Nat, Ev (fun k => spec_faShared.l0 k l b (c : Int) L (L.length : Int) (L.length : Int)) ((c + ((L.drop L.length).filter fun x => (pp l b).contains x).length : Nat) : Int) := fun c =>
    Ev.step (f := fun k => _) (fun k => by rw [spec_faShared.l0]) (ifn (by omega) (evEq now (by simp)))
  induction n with
  | zero =>
    intro i c h1 h2 h3
    obtain rfl : i = L.length := by omega
    exact stop c
  | succ n ih =>
    intro i c h1 h2 h3
    by_cases hi : i < L.length
    · refine Ev.step (f := fun k => _) (fun k => by rw [spec_faShared.l0]) (ifp (by omega) (ifp (by omega) (ifp (by omega) ?_)))
      refine Ev.bind (faParentsI l b hb) ?_
      rw [rdI L i hi, w64 (i + 1) (by omega), w64 (c + 1) (by omega)]
      refine Ev.bind (l1Has _ _ (Nat.le_trans (ps_len _) (by decide))) ?_
      rw [List.drop_eq_getElem_cons hi]
      cases h : (pp l b).contains L[i] with
      | true =>
        refine ifp rfl ?_
        rw [List.filter_cons_of_pos h]
        refine evEq (ih (i + 1) (c + 1) (by omega) (by omega) (by omega)) ?_
        rw [List.length_cons]
        exact congrArg Nat.cast ((show ∀ x : Nat, c + 1 + x = c + (x + 1) from fun x => by omega) _)
      | false =>
        refine ifn (by simp) ?_
        rw [List.filter_cons_of_neg (by simpa using h)]
        exact ih (i + 1) c (by omega) (by omega) (by omega)
    · obtain rfl : i = L.length := by omega
      exact stop c
theorem faShared (l : List Kn) (a b : Int) (ha : 0 ≤ a ∧ a < (l.length : Int)) (hb : 0 ≤ b ∧ b < (l.length : Int)) : Ev (fun k => spec_faShared.f k l a b) ((shared l a b).length : Int) := by
  unfold spec_faShared.f
  refine Ev.bind (faParentsI l a ha) ?_
  refine evEq (faShared_l l b hb (pp l a) (Nat.le_trans (ps_len _) (by decide)) _ 0 0 (by omega) (Nat.le_refl _) (by omega)) ?_
  simp [shared]
theorem inCommon (l : List Kn) (a b : Int) (ha : 0 ≤ a ∧ a < (l.length : Int)) (hb : 0 ≤ b ∧ b < (l.length : Int)) : impl_inCommon.f l a b = some (if a = b then 0 else ((shared l a b).length : Int)) := by
  have e : ∀ i : Int, impl_Kin_parents.f (rd_T36 l i).f0 (rd_T36 l i).f1 (rd_T36 l i).f2 = some (pp l i) := fun i => rfl
  have h2 : impl_common.f (pp l a) (pp l b) = some (shared l a b) := if_pos (Nat.lt_of_le_of_lt (ps_len _) (by decide))
  unfold impl_inCommon.f
  by_cases h : a = b
  · rw [if_pos h, if_pos h]
  · rw [if_neg h, if_neg h, if_pos ha.1, if_pos ha.2, e a]
    simp only [Option.bind_some]
    rw [if_pos hb.1, if_pos hb.2, e b]
    simp only [Option.bind_some]
    rw [h2]
    rfl
/-- Are they siblings? -/
def sib (l : List Kn) (a b : Int) : Bool := if a = b then false else decide (((shared l a b).length : Int) > 0)
theorem faSiblings (l : List Kn) (a b : Int) (ha : 0 ≤ a ∧ a < (l.length : Int)) (hb : 0 ≤ b ∧ b < (l.length : Int)) : Ev (fun k => spec_faSiblings.f k l a b) (sib l a b) := by
  unfold spec_faSiblings.f
  by_cases h : a = b
  · exact ifp h (evEq now (by rw [sib, if_pos h]))
  · refine ifn h (Ev.bind (faShared l a b ha hb) (evEq now (by rw [sib, if_neg h])))
theorem areSiblings (l : List Kn) (a b : Int) (ha : 0 ≤ a ∧ a < (l.length : Int)) (hb : 0 ≤ b ∧ b < (l.length : Int)) : impl_areSiblings.f l a b = some (sib l a b) := by
  unfold impl_areSiblings.f
  rw [inCommon l a b ha hb]
  simp only [Option.bind_some]
  unfold sib
  by_cases h : a = b
  · rw [if_pos h, if_pos h]; rfl
  · rw [if_neg h, if_neg h]
theorem Fam_pp (l : List Kn) (hf : Fam l) (i p : Int) (hi : 0 ≤ i ∧ i < (l.length : Int)) (hp : p ∈ pp l i) : 0 ≤ p ∧ p < i := by
  obtain ⟨h2, e2⟩ := rdK_int l i hi.1 hi.2
  change p ∈ ps (rd_T36 l i) at hp
  rw [e2] at hp
  have h3 := hf.2 _ h2
  have h4 := (mem_ps _ p).1 hp
  unfold Fits at h3
  omega
def aunt (l : List Kn) (a b : Int) : Bool := (pp l b).any fun p => sib l a p
theorem isAunt (l : List Kn) (hf : Fam l) (a b : Int) (ha : 0 ≤ a ∧ a < (l.length : Int)) (hb : 0 ≤ b ∧ b < (l.length : Int)) : impl_isAunt.f l a b = some (aunt l a b) := by
  have hs : ∀ p ∈ pp l b, impl_areSiblings.f l a p = some (sib l a p) := fun p hp => by
    have := Fam_pp l hf b p hb hp
    exact areSiblings l a p ha (by omega)
  have e : impl_isAunt.ps l b = pp l b := rfl
  unfold impl_isAunt.f
  rw [if_pos hb, e, if_pos (List.all_eq_true.2 fun p hp => by rw [hs p hp]; rfl)]
  congr 1
  unfold aunt
  rw [Bool.eq_iff_iff, List.any_eq_true, List.any_eq_true]
  constructor
  · rintro ⟨p, h1, h2⟩; rw [hs p h1] at h2; exact ⟨p, h1, h2⟩
  · rintro ⟨p, h1, h2⟩; refine ⟨p, h1, ?_⟩; rw [hs p h1]; exact h2
def cous (l : List Kn) (a b : Int) : Bool := if a = b then false else if sib l a b = true then false else (pp l a).any fun p => aunt l p b
theorem areCousins (l : List Kn) (hf : Fam l) (a b : Int) (ha : 0 ≤ a ∧ a < (l.length : Int)) (hb : 0 ≤ b ∧ b < (l.length : Int)) : impl_areCousins.f l a b = some (cous l a b) := by
  have hs : ∀ p ∈ pp l a, impl_isAunt.f l p b = some (aunt l p b) := fun p hp => by
    have := Fam_pp l hf a p ha hp
    exact isAunt l hf p b (by omega) hb
  have e : impl_isAunt.ps l a = pp l a := rfl
  unfold impl_areCousins.f cous
  by_cases h : a = b
  · rw [if_pos h, if_pos h]
  · rw [if_neg h, if_neg h, areSiblings l a b ha hb]
    simp only [Option.bind_some]
    by_cases h2 : sib l a b = true
    · rw [if_pos h2, if_pos h2]
    · rw [if_neg h2, if_neg h2, if_pos ha, e, if_pos (List.all_eq_true.2 fun p hp => by rw [hs p hp]; rfl)]
      congr 1
      rw [Bool.eq_iff_iff, List.any_eq_true, List.any_eq_true]
      constructor
      · rintro ⟨p, h1, h2⟩; rw [hs p h1] at h2; exact ⟨p, h1, h2⟩
      · rintro ⟨p, h1, h2⟩; refine ⟨p, h1, ?_⟩; rw [hs p h1]; exact h2
theorem faCousins_l1 (l : List Kn) (b p : Int) (r : Bool) (L M : List Int) (i : Nat) (hp : 0 ≤ p ∧ p < (l.length : Int)) (hM : M.length ≤ 1000) (hM2 : ∀ q ∈ M, 0 ≤ q ∧ q < (l.length : Int)) (hr : Ev (fun k => spec_faCousins.l0 k l b L (L.length : Int) (wrap64 ((i : Int) + 1))) r) (n : Nat) :
    ∀ j : Nat, j ≤ M.length → M.length - j ≤ n → Ev (fun k => spec_faCousins.l1 k l b p L (L.length : Int) (i : Int) M (M.length : Int) (j : Int)) (((M.drop j).any fun q => sib l p q) || r) := by
  have stop : Ev (fun k => spec_faCousins.l1 k l b p L (L.length : Int) (i : Int) M (M.length : Int) (M.length : Int)) (((M.drop M.length).any fun q => sib l p q) || r) := by
    refine Ev.step (f := fun k => _) (fun k => by rw [spec_faCousins.l1]) (ifn (by omega) (evEq hr ?_))
    simp
  induction n with
  | zero =>
    intro j h1 h2
    obtain rfl : j = M.length := by omega
    exact stop
  | succ n ih =>
    intro j h1 h2
    by_cases hj : j < M.length
    · refine Ev.step (f := fun k => _) (fun k => by rw [spec_faCousins.l1]) (ifp (by omega) (ifp (by omega) (ifp (by omega) ?_)))
      rw [rdI M j hj, w64 (j + 1) (by omega)]
      refine Ev.bind (faSiblings l p M[j] hp (hM2 _ (List.getElem_mem hj))) ?_
      rw [List.drop_eq_getElem_cons hj, List.any_cons]
      cases h : sib l p M[j] with
      | true => exact ifp rfl (evEq now (by simp))
      | false => exact ifn (by simp) (evEq (ih (j + 1) (by omega) (by omega)) (by simp))
    · obtain rfl : j = M.length := by omega
      exact stop
theorem faCousins_l (l : List Kn) (hf : Fam l) (b : Int) (hb : 0 ≤ b ∧ b < (l.length : Int)) (L : List Int) (hL : L.length ≤ 1000) (hL2 : ∀ q ∈ L, 0 ≤ q ∧ q < (l.length : Int)) (n : Nat) :
    ∀ i : Nat, i ≤ L.length → L.length - i ≤ n → Ev (fun k => spec_faCousins.l0 k l b L (L.length : Int) (i : Int)) ((L.drop i).any fun p => aunt l p b) := by
  have stop : Ev (fun k => spec_faCousins.l0 k l b L (L.length : Int) (L.length : Int)) ((L.drop L.length).any fun p => aunt l p b) := by
    refine Ev.step (f := fun k => _) (fun k => by rw [spec_faCousins.l0]) (ifn (by omega) (evEq now ?_))
    simp
  induction n with
  | zero =>
    intro i h1 h2
    obtain rfl : i = L.length := by omega
    exact stop
  | succ n ih =>
    intro i h1 h2
    by_cases hi : i < L.length
    · refine Ev.step (f := fun k => _) (fun k => by rw [spec_faCousins.l0]) (ifp (by omega) (ifp (by omega) (ifp (by omega) ?_)))
      refine Ev.bind (faParentsI l b hb) ?_
      rw [rdI L i hi, List.drop_eq_getElem_cons hi, List.any_cons]
      have hr := ih (i + 1) (by omega) (by omega)
      rw [show ((i + 1 : Nat) : Int) = wrap64 ((i : Int) + 1) by rw [w64 _ (by omega)]; rfl] at hr
      have := faCousins_l1 l b L[i] _ L (pp l b) i (hL2 _ (List.getElem_mem hi)) (Nat.le_trans (ps_len _) (by decide)) (fun q hq => by have := Fam_pp l hf b q hb hq; omega) hr _ 0 (by omega) (Nat.le_refl _)
      exact this
    · obtain rfl : i = L.length := by omega
      exact stop
theorem faCousins (l : List Kn) (hf : Fam l) (a b : Int) (ha : 0 ≤ a ∧ a < (l.length : Int)) (hb : 0 ≤ b ∧ b < (l.length : Int)) : Ev (fun k => spec_faCousins.f k l a b) (cous l a b) := by
  unfold spec_faCousins.f cous
  by_cases h : a = b
  · rw [if_pos h]
    refine ifp h (Ev.step (f := fun k => _) (fun k => by rw [spec_faCousins.j0]) (ifp rfl now))
  · refine evEq (ifn h (Ev.bind (faSiblings l a b ha hb) (Ev.step (f := fun k => _) (fun k => by rw [spec_faCousins.j0]) ?_))) (if_neg h).symm
    by_cases h2 : sib l a b = true
    · exact ifp h2 (evEq now (if_pos h2).symm)
    · refine ifn h2 (Ev.bind (faParentsI l a ha) (evEq ?_ (if_neg h2).symm))
      exact faCousins_l l hf b hb (pp l a) (Nat.le_trans (ps_len _) (by decide)) (fun q hq => by have := Fam_pp l hf a q ha hq; omega) _ 0 (by omega) (Nat.le_refl _)
end Go.Proofs.Ytooeliiolcolaaa.Pr
