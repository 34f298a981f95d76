/- Generations of a family, on both sides. Condition: a family of at most 14. -/
import Derived.Test.YtooeliiolcolaaaPx8
import Derived.Test.YtooeliiolcolaaaPx12
import Derived.Test.YtooeliiolcolaaaFaP
import Derived.Test.YtooeliiolcolaaaFaX
namespace Go.Proofs.Ytooeliiolcolaaa.Pr
open Go.RowKit Go.Proofs.Ytooeliiolcolaaa.P Go.Proofs.YtooeliiolcolaaaW.PrintWords Go.Proofs.Ytooeliiolcolaaa.E
def top (g : List Int) (L : List Int) (m : Int) : Int := L.foldl (fun m p => max m (rd g p + 1)) m
def gens (l : List Kn) : Nat → List Int
  | 0 => []
  | n + 1 => gens l n ++ [top (gens l n) (pp l n) 0]
theorem gens_len (l : List Kn) (n : Nat) : (gens l n).length = n := by
  induction n with
  | zero => rfl
  | succ n ih => rw [gens, List.length_append, ih]; rfl
theorem gens_old (l : List Kn) (n : Nat) (p : Int) (h : 0 ≤ p ∧ p < (n : Int)) : rd (gens l (n + 1)) p = rd (gens l n) p := by
  have h2 : p.toNat < (gens l n).length := by rw [gens_len]; omega
  unfold rd
  rw [gens]
  simp only [List.getD_eq_getElem?_getD]
  rw [List.getElem?_append_left h2]
theorem gens_new (l : List Kn) (n : Nat) : rd (gens l (n + 1)) (n : Int) = top (gens l n) (pp l n) 0 := by
  rw [rdI _ n (by rw [gens_len]; omega)]
  have : (gens l (n + 1))[n]'(by rw [gens_len]; omega) = (gens l n ++ [top (gens l n) (pp l n) 0])[n]'(by rw [List.length_append, gens_len, List.length_singleton]; omega) := rfl
  rw [this, List.getElem_append_right (by rw [gens_len]; omega)]
  simp [gens_len]
theorem gens_same (l : List Kn) (n m : Nat) (p : Int) (h : 0 ≤ p ∧ p < (n : Int)) : rd (gens l (n + m)) p = rd (gens l n) p := by
  induction m with
  | zero => rfl
  | succ m ih => rw [show n + (m + 1) = (n + m) + 1 by omega, gens_old l (n + m) p (by omega), ih]
theorem top_bound (g : List Int) (B : Int) (L : List Int) (h : ∀ p ∈ L, 0 ≤ rd g p ∧ rd g p + 1 ≤ B) : ∀ m : Int, 0 ≤ m ∧ m ≤ B → 0 ≤ top g L m ∧ top g L m ≤ B := by
  induction L with
  | nil => intro m hm; exact hm
  | cons a L ih =>
    intro m hm
    have ha := h a (List.mem_cons_self ..)
    exact ih (fun p hp => h p (List.mem_cons_of_mem _ hp)) (max m (rd g a + 1)) (by omega)
theorem gens_bound (l : List Kn) (hf : Fam l) (n : Nat) (hn : n ≤ l.length) : ∀ p : Int, 0 ≤ p ∧ p < (n : Int) → 0 ≤ rd (gens l n) p ∧ rd (gens l n) p ≤ p := by
  induction n with
  | zero => intro p hp; omega
  | succ n ih =>
    intro p hp
    by_cases h : p = (n : Int)
    · subst h
      rw [gens_new]
      refine top_bound _ _ _ ?_ 0 (by omega)
      intro q hq
      have h1 := Fam_pp l hf n q (by omega) hq
      have h2 := ih (by omega) q h1
      omega
    · rw [gens_old l n p (by omega)]
      exact ih (by omega) p (by omega)
theorem faGen_l1 (l : List Kn) (hf : Fam l) (i : Nat) (hi : i < l.length) (r : List Int) (L : List Int) (hL : L.length ≤ 1000) (hv : ∀ p ∈ L, 0 ≤ p ∧ p < (i : Int))
    (n : Nat) : ∀ (j : Nat) (m : Int), j ≤ L.length → L.length - j ≤ n → 0 ≤ m ∧ m ≤ i → Ev (fun k => spec_faGenerations.l0 k l (gens l i ++ [top (gens l i) (L.drop j) m]) (l.length : Int) (wrap64 ((i : Int) + 1))) r → Ev (fun k => spec_faGenerations.l1 k l (gens l i) m (l.length : Int) (i : Int) L (L.length : Int) (j : Int)) r := by
  have h14 := hf.1.2
  have stop : ∀ m : Int, Ev (fun k => spec_faGenerations.l0 k l (gens l i ++ [top (gens l i) (L.drop L.length) m]) (l.length : Int) (wrap64 ((i : Int) + 1))) r → Ev (fun k => spec_faGenerations.l1 k l (gens l i) m (l.length : Int) (i : Int) L (L.length : Int) (L.length : Int)) r := by
    intro m hr
    refine Ev.step (f := fun k => _) (fun k => by rw [spec_faGenerations.l1]) (ifn (by omega) (ifp (by rw [gens_len]; omega) ?_))
    rw [List.drop_length] at hr
    exact hr
  induction n with
  | zero =>
    intro j m h1 h2 h3 hr
    obtain rfl : j = L.length := by omega
    exact stop m hr
  | succ n ih =>
    intro j m h1 h2 h3 hr
    by_cases hj : j < L.length
    · have hp := hv L[j] (List.getElem_mem hj)
      have hb := gens_bound l hf i (by omega) L[j] hp
      refine Ev.step (f := fun k => _) (fun k => by rw [spec_faGenerations.l1]) (ifp (by omega) (ifp (by omega) (ifp (by omega) ?_)))
      rw [rdI L j hj]
      refine ifp hp.1 (ifp (by rw [gens_len]; omega) ?_)
      rw [w64 (rd (gens l i) L[j] + 1) (by omega), w64 _ (by omega)]
      refine call (most_eq _ _) (ih (j + 1) _ (by omega) (by omega) (by omega) ?_)
      rw [List.drop_eq_getElem_cons hj] at hr
      exact hr
    · obtain rfl : j = L.length := by omega
      exact stop m hr
theorem faGen_l (l : List Kn) (hf : Fam l) (n : Nat) : ∀ i : Nat, i ≤ l.length → l.length - i ≤ n → Ev (fun k => spec_faGenerations.l0 k l (gens l i) (l.length : Int) (i : Int)) (gens l l.length) := by
  have h14 := hf.1.2
  have stop : Ev (fun k => spec_faGenerations.l0 k l (gens l l.length) (l.length : Int) (l.length : Int)) (gens l l.length) := by
    refine Ev.step (f := fun k => _) (fun k => by rw [spec_faGenerations.l0]) (ifn (by omega) (evEq now ?_))
    rfl
  induction n with
  | zero =>
    intro i h1 h2
    obtain rfl : i = l.length := by omega
    exact stop
  | succ n ih =>
    intro i h1 h2
    by_cases hi : i < l.length
    · refine Ev.step (f := fun k => _) (fun k => by rw [spec_faGenerations.l0]) (ifp (by omega) ?_)
      refine Ev.bind (faParentsI l i (by omega)) ?_
      refine faGen_l1 l hf i hi _ (pp l i) (Nat.le_trans (ps_len _) (by decide)) (fun p hp => by have := Fam_pp l hf i p (by omega) hp; omega) _ 0 0 (by omega) (Nat.le_refl _) (by omega) ?_
      have := ih (i + 1) (by omega) (by omega)
      rw [gens] at this
      rw [w64 _ (by omega)]
      exact this
    · obtain rfl : i = l.length := by omega
      exact stop
theorem faGenerations (l : List Kn) (hf : Fam l) : Ev (fun k => spec_faGenerations.f k l) (gens l l.length) := faGen_l l hf _ 0 (by omega) (Nat.le_refl _)
theorem generation_l (l : List Kn) (hf : Fam l) (i : Nat) (hi : i < l.length) (ih : ∀ p : Int, 0 ≤ p ∧ p < (i : Int) → Ev (fun k => impl_generation.f k l p) (rd (gens l i) p)) (L : List Int) (hL : L.length ≤ 1000) (hv : ∀ p ∈ L, 0 ≤ p ∧ p < (i : Int))
    (n : Nat) : ∀ (j : Nat) (m : Int), j ≤ L.length → L.length - j ≤ n → 0 ≤ m ∧ m ≤ i → Ev (fun k => impl_generation.l0 k l m L (L.length : Int) (j : Int)) (top (gens l i) (L.drop j) m) := by
  have h14 := hf.1.2
  have stop : ∀ m : Int, Ev (fun k => impl_generation.l0 k l m L (L.length : Int) (L.length : Int)) (top (gens l i) (L.drop L.length) m) := by
    intro m
    refine Ev.step (f := fun k => _) (fun k => by rw [impl_generation.l0]) (ifn (by omega) (evEq now ?_))
    rw [List.drop_length]
    rfl
  induction n with
  | zero =>
    intro j m h1 h2 h3
    obtain rfl : j = L.length := by omega
    exact stop m
  | succ n ih2 =>
    intro j m h1 h2 h3
    by_cases hj : j < L.length
    · have hp := hv L[j] (List.getElem_mem hj)
      have hb := gens_bound l hf i (by omega) L[j] hp
      refine Ev.step (f := fun k => _) (fun k => by rw [impl_generation.l0]) (ifp (by omega) (ifp (by omega) (ifp (by omega) ?_)))
      rw [rdI L j hj]
      refine Ev.bind (ih L[j] hp) ?_
      rw [w64 (rd (gens l i) L[j] + 1) (by omega), w64 _ (by omega), mx_eq, List.drop_eq_getElem_cons hj]
      exact ih2 (j + 1) _ (by omega) (by omega) (by omega)
    · obtain rfl : j = L.length := by omega
      exact stop m
theorem generation_n (l : List Kn) (hf : Fam l) (n : Nat) : ∀ i : Nat, i < n → i < l.length → Ev (fun k => impl_generation.f k l (i : Int)) (rd (gens l (i + 1)) (i : Int)) := by
  induction n with
  | zero => intro i h; omega
  | succ n ih =>
    intro i h hi
    refine Ev.step (f := fun k => _) (fun k => by rw [impl_generation.f]) (ifp (by omega) (ifp (by omega) ?_))
    refine call (parents_f (rdK l i)) ?_
    rw [gens_new]
    refine generation_l l hf i hi ?_ (pp l i) (Nat.le_trans (ps_len _) (by decide)) (fun p hp => by have := Fam_pp l hf i p (by omega) hp; omega) _ 0 0 (by omega) (Nat.le_refl _) (by omega)
    intro p hp
    have h1 := ih p.toNat (by omega) (by omega)
    rw [show ((p.toNat : Nat) : Int) = p by omega] at h1
    have h2 := gens_same l (p.toNat + 1) (i - (p.toNat + 1)) p (by omega)
    rw [show p.toNat + 1 + (i - (p.toNat + 1)) = i by omega] at h2
    rw [h2]
    exact h1
theorem generation (l : List Kn) (hf : Fam l) (i : Int) (h : 0 ≤ i ∧ i < (l.length : Int)) : Ev (fun k => impl_generation.f k l i) (rd (gens l l.length) i) := by
  have h1 := generation_n l hf (i.toNat + 1) i.toNat (by omega) (by omega)
  rw [show ((i.toNat : Nat) : Int) = i by omega] at h1
  have h2 := gens_same l (i.toNat + 1) (l.length - (i.toNat + 1)) i (by omega)
  rw [show i.toNat + 1 + (l.length - (i.toNat + 1)) = l.length by omega] at h2
  rw [h2]
  exact h1
end Go.Proofs.Ytooeliiolcolaaa.Pr
