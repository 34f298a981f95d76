/- What the law on kin, told from both sides, asks: shown for all bytes. No condition. -/
import Derived.Test.YtllihaahppelhaaGreatPxHlawsqFnKinRelated
import Derived.Test.YtllihaahppelhaaGreatF0
import Derived.Test.YtllihaahppelhaaGreatF5
import Derived.Test.YtllihaahppelhaaGreatF1
import Derived.Test.YtllihaahppelhaaGreatF3
import Derived.Test.YtllihaahppelhaaGreatF2
import Derived.Test.YtllihaahppelhaaGreatPx0
import Derived.Test.YtllihaahppelhaaGreatEv
import Derived.Lib.SlicesCompact
import Derived.Test.YtllihaahppelhaaGreatF4
import Derived.WalkSmall
namespace Go.Proofs.YtllihaahppelhaaGreat.Pr
open Go.RowKit Go.Proofs.YtllihaahppelhaaGreat.P Go.Proofs.YtllihaahppelhaaGreatW.PrintWords Go.Proofs.YtllihaahppelhaaGreat.E
abbrev Kn := S41
abbrev rdK (l : List Kn) (i : Int) : Kn := rd_T41 l i
theorem rdK_get (l : List Kn) (i : Nat) (h : i < l.length) : rd_T41 l (i : Int) = l[i] := by simp [rd_T41, List.getD_eq_getElem?_getD, List.getElem?_eq_getElem h]
end Go.Proofs.YtllihaahppelhaaGreat.Pr
namespace Go.Proofs.YtllihaahppelhaaGreat.Pr
open Go.RowKit Go.Proofs.YtllihaahppelhaaGreat.P Go.Proofs.YtllihaahppelhaaGreatW.PrintWords Go.Proofs.YtllihaahppelhaaGreat.E
theorem l1In (a lo hi : Int) : spec_l1In.f a lo hi = some (decide (lo ≤ a ∧ a ≤ hi)) := by
  unfold spec_l1In.f
  by_cases h : a ≥ lo
  · rw [if_pos h]; congr 1; simp; omega
  · rw [if_neg h]; congr 1; simp; omega
theorem between (a lo hi : Int) : impl_between.f a lo hi = some (decide (lo ≤ a ∧ a ≤ hi)) := l1In a lo hi
theorem rdI (l : List Int) (i : Nat) (h : i < l.length) : rd l (i : Int) = l[i] := by simp [rd, List.getD_eq_getElem?_getD, List.getElem?_eq_getElem h]
/-- The known parents. -/
def ps (k : Kn) : List Int := [k.f1, k.f2].filter fun x => !decide (x < 0)
theorem parents_f (k : Kn) : impl_Kin_parents.f k.f0 k.f1 k.f2 = some (ps k) := rfl
theorem ps_len (k : Kn) : (ps k).length ≤ 2 := by unfold ps; exact Nat.le_trans (List.length_filter_le _ _) (by simp)
theorem mem_ps (k : Kn) (p : Int) : p ∈ ps k ↔ (p = k.f1 ∨ p = k.f2) ∧ 0 ≤ p := by
  unfold ps
  simp [List.mem_filter]
/-- May k be told behind the first i of l? -/
def Fits (l : List Kn) (i : Nat) (k : Kn) : Prop := (0 ≤ k.f0 ∧ k.f0 ≤ 3000) ∧ ((k.f1 = -1 ∧ k.f2 = -1) ∨ ((0 ≤ k.f1 ∧ k.f1 < i ∧ 14 ≤ k.f0 - (rdK l k.f1).f0) ∧ (k.f2 = -1 ∨ (k.f1 < k.f2 ∧ k.f2 < i ∧ 14 ≤ k.f0 - (rdK l k.f2).f0))))
instance (l : List Kn) (i : Nat) (k : Kn) : Decidable (Fits l i k) := by unfold Fits; exact inferInstance
def Fam (l : List Kn) : Prop := (1 ≤ l.length ∧ l.length ≤ 14) ∧ ∀ i, (h : i < l.length) → Fits l i l[i]
noncomputable def good (l : List Kn) : Bool := dec (Fam l)
theorem good_iff (l : List Kn) : good l = true ↔ Fam l := dec_iff _
theorem good_not (l : List Kn) (h : ¬ Fam l) : good l = false := by
  cases e : good l with
  | true => exact absurd ((good_iff l).1 e) h
  | false => rfl
theorem rdK_int (l : List Kn) (p : Int) (h0 : 0 ≤ p) (h1 : p < (l.length : Int)) : ∃ h : p.toNat < l.length, rd_T41 l p = l[p.toNat] := by
  have h : p.toNat < l.length := by omega
  refine ⟨h, ?_⟩
  have e := rdK_get l p.toNat h
  rw [Int.toNat_of_nonneg h0] at e
  exact e
theorem rdK_take (l : List Kn) (i : Nat) (hi : i ≤ l.length) (p : Int) (h0 : 0 ≤ p) (h1 : p < (i : Int)) : rdK (l.take i) p = rdK l p := by
  obtain ⟨h2, e2⟩ := rdK_int (l.take i) p h0 (by rw [List.length_take]; omega)
  obtain ⟨h3, e3⟩ := rdK_int l p h0 (by omega)
  show rd_T41 _ _ = rd_T41 _ _
  rw [e2, e3, List.getElem_take]
theorem Fits_take (l : List Kn) (i : Nat) (hi : i ≤ l.length) (k : Kn) : Fits (l.take i) i k ↔ Fits l i k := by
  unfold Fits
  refine and_congr_right fun _ => or_congr_right ?_
  by_cases h1 : 0 ≤ k.f1 ∧ k.f1 < (i : Int)
  · rw [rdK_take l i hi _ h1.1 h1.2]
    refine and_congr_right fun _ => or_congr_right ?_
    by_cases h2 : 0 ≤ k.f2 ∧ k.f2 < (i : Int)
    · rw [rdK_take l i hi _ h2.1 h2.2]
    · constructor <;> intro h <;> exact absurd (show 0 ≤ k.f2 ∧ k.f2 < (i : Int) by omega) h2
  · constructor <;> intro h <;> exact absurd ⟨h.1.1, h.1.2.1⟩ h1
def Years (l : List Kn) : Prop := ∀ i, (h : i < l.length) → 0 ≤ l[i].f0 ∧ l[i].f0 ≤ 3000
theorem Years_rd (l : List Kn) (hy : Years l) (p : Int) (h0 : 0 ≤ p) (h1 : p < (l.length : Int)) : 0 ≤ (rdK l p).f0 ∧ (rdK l p).f0 ≤ 3000 := by
  obtain ⟨h, e⟩ := rdK_int l p h0 h1
  show 0 ≤ (rd_T41 l p).f0 ∧ (rd_T41 l p).f0 ≤ 3000
  rw [e]; exact hy _ h
theorem faOlder (b : List Kn) (p born : Int) (hy : Years b) (hb : 0 ≤ born ∧ born ≤ 3000) (hl : b.length ≤ 1073741824) : spec_faOlder.f b p born = some (decide (0 ≤ p ∧ p < (b.length : Int) ∧ 14 ≤ born - (rdK b p).f0)) := by
  unfold spec_faOlder.f
  rw [w64 _ (by omega), l1In]
  simp only [Option.bind_some]
  by_cases h : 0 ≤ p ∧ p ≤ (b.length : Int) - 1
  · have hr : 0 ≤ (rd_T41 b p).f0 ∧ (rd_T41 b p).f0 ≤ 3000 := Years_rd b hy p h.1 (by omega)
    rw [if_pos (by simpa using h), if_pos h.1, if_pos (by omega), w64 _ (by omega)]
    congr 1
    rw [decide_eq_decide]
    constructor
    · intro h1; exact ⟨h.1, by omega, h1⟩
    · intro h1; exact h1.2.2
  · rw [if_neg (by simpa using h)]
    congr 1
    symm
    rw [decide_eq_false_iff_not]
    intro h1
    exact h ⟨h1.1, by omega⟩
theorem faFits (b : List Kn) (k : Kn) (hy : Years b) (hl : b.length ≤ 1073741824) : spec_faFits.f b k.f0 k.f1 k.f2 = some (decide (Fits b b.length k)) := by
  unfold spec_faFits.f
  rw [l1In]
  simp only [Option.bind_some]
  by_cases h0 : 0 ≤ k.f0 ∧ k.f0 ≤ 3000
  · rw [if_pos (by simpa using h0)]
    by_cases h1 : k.f1 = -1
    · rw [if_pos h1]
      congr 1
      rw [Bool.eq_iff_iff, decide_eq_true_iff, beq_iff_eq]
      unfold Fits
      constructor
      · intro h; exact ⟨h0, .inl ⟨h1, h⟩⟩
      · rintro ⟨_, h | h⟩
        · exact h.2
        · omega
    · rw [if_neg h1, faOlder b k.f1 k.f0 hy h0 hl]
      simp only [Option.bind_some]
      by_cases h2 : 0 ≤ k.f1 ∧ k.f1 < (b.length : Int) ∧ 14 ≤ k.f0 - (rdK b k.f1).f0
      · rw [if_pos (by simpa using h2)]
        by_cases h3 : k.f2 = -1
        · rw [if_pos h3]
          congr 1
          symm
          rw [decide_eq_true_iff]
          exact ⟨h0, .inr ⟨h2, .inl h3⟩⟩
        · rw [if_neg h3]
          by_cases h4 : k.f1 < k.f2
          · rw [if_pos h4, faOlder b k.f2 k.f0 hy h0 hl]
            simp only [Option.bind_some]
            congr 1
            rw [decide_eq_decide]
            unfold Fits
            constructor
            · intro h5; exact ⟨h0, .inr ⟨h2, .inr ⟨h4, h5.2.1, h5.2.2⟩⟩⟩
            · rintro ⟨_, h | h⟩
              · omega
              · rcases h.2 with h | h
                · exact absurd h h3
                · exact ⟨by omega, h.2.1, h.2.2⟩
          · rw [if_neg h4]
            congr 1
            symm
            rw [decide_eq_false_iff_not]
            rintro ⟨_, h | h⟩
            · omega
            · rcases h.2 with h | h
              · exact h3 h
              · exact h4 h.1
      · rw [if_neg (by simpa using h2)]
        congr 1
        symm
        rw [decide_eq_false_iff_not]
        rintro ⟨_, h | h⟩
        · omega
        · exact h2 h.1
  · rw [if_neg (by simpa using h0)]
    congr 1
    symm
    rw [decide_eq_false_iff_not]
    exact fun h => h0 h.1
def FamFrom (l : List Kn) (i : Nat) : Prop := ∀ j, i ≤ j → (h : j < l.length) → Fits l j l[j]
theorem FamFrom_step (l : List Kn) (i : Nat) (h : i < l.length) (hf : Fits l i l[i]) : FamFrom l (i + 1) ↔ FamFrom l i := by
  constructor
  · intro h1 j hj hl
    by_cases e : j = i
    · subst e; exact hf
    · exact h1 j (by omega) hl
  · intro h1 j hj hl
    exact h1 j (by omega) hl
def YearsTo (l : List Kn) (i : Nat) : Prop := ∀ j, j < i → (h : j < l.length) → 0 ≤ l[j].f0 ∧ l[j].f0 ≤ 3000
theorem YearsTo_take (l : List Kn) (i : Nat) (h : YearsTo l i) : Years (l.take i) := by
  intro j hj
  rw [List.length_take] at hj
  rw [List.getElem_take]
  exact h j (by omega) (by omega)
theorem YearsTo_step (l : List Kn) (i : Nat) (h : i < l.length) (hf : Fits l i l[i]) (hy : YearsTo l i) : YearsTo l (i + 1) := by
  intro j hj hl
  by_cases e : j = i
  · subst e; exact hf.1
  · exact hy j (by omega) hl
theorem faGood_l (l : List Kn) (hl : l.length ≤ 1073741824) (n : Nat) : ∀ i : Nat, i ≤ l.length → l.length - i ≤ n → YearsTo l i → Ev (fun k => spec_faGood.l0 k l l (l.length : Int) (i : Int)) (dec (FamFrom l i)) := by
  have stop : Ev (fun k => spec_faGood.l0 k l l (l.length : Int) (l.length : Int)) (dec (FamFrom l l.length)) := by
    refine Ev.step (f := fun k => _) (fun k => by rw [spec_faGood.l0]) (ifn (by omega) (evEq now ?_))
    symm
    refine dec_pos ?_
    intro j h1 h2
    omega
  induction n with
  | zero =>
    intro i h1 h2 _
    obtain rfl : i = l.length := by omega
    exact stop
  | succ n ih =>
    intro i h1 h2 hy
    by_cases hi : i < l.length
    · refine Ev.step (f := fun k => _) (fun k => by rw [spec_faGood.l0]) (ifp (by omega) (ifp (by omega) (ifp (by omega) (ifp (by omega) ?_))))
      rw [rdK_get l i hi, Int.toNat_natCast, w64 _ (by omega)]
      have hf := faFits (l.take i) l[i] (YearsTo_take l i hy) (by rw [List.length_take]; omega)
      have e : (l.take i).length = i := by rw [List.length_take]; omega
      rw [e] at hf
      refine call hf ?_
      by_cases hq : Fits l i l[i]
      · refine ifp (by simpa using (Fits_take l i h1 l[i]).2 hq) (evEq (ih (i + 1) (by omega) (by omega) (YearsTo_step l i hi hq hy)) ?_)
        exact dec_congr (FamFrom_step l i hi hq)
      · refine ifn (by simpa using fun h => hq ((Fits_take l i h1 l[i]).1 h)) (evEq now ?_)
        symm
        exact dec_neg fun h => hq (h i (Nat.le_refl _) hi)
    · obtain rfl : i = l.length := by omega
      exact stop
theorem faGood (l : List Kn) (hl : l.length ≤ 1073741824) : Ev (fun k => spec_faGood.f k l) (good l) := by
  unfold spec_faGood.f
  refine call (l1In _ _ _) ?_
  by_cases h : 1 ≤ l.length ∧ l.length ≤ 14
  · refine ifp (by simp; omega) (evEq (faGood_l l hl _ 0 (by omega) (Nat.le_refl _) (fun j hj => absurd hj (Nat.not_lt_zero _))) ?_)
    refine dec_congr ?_
    constructor
    · intro h1; exact ⟨h, fun i hi => h1 i (by omega) hi⟩
    · intro h1 j _ hj; exact h1.2 j hj
  · refine ifn (by simp; omega) (evEq now ?_)
    rw [good_not l fun h1 => h h1.1]
end Go.Proofs.YtllihaahppelhaaGreat.Pr
namespace Go.Proofs.YtllihaahppelhaaGreat.Pr
open Go.RowKit Go.Proofs.YtllihaahppelhaaGreat.P Go.Proofs.YtllihaahppelhaaGreatW.PrintWords Go.Proofs.YtllihaahppelhaaGreat.E
/-- The program's tests of one of the kin. -/
def Own (i : Nat) (k : Kn) : Prop := (0 ≤ k.f0 ∧ k.f0 ≤ 3000) ∧ (-1 ≤ k.f1 ∧ k.f1 ≤ (i : Int) - 1) ∧ (-1 ≤ k.f2 ∧ k.f2 ≤ (i : Int) - 1) ∧ ¬ (0 ≤ k.f2 ∧ k.f2 ≤ k.f1) ∧ ¬ (k.f1 < 0 ∧ 0 ≤ k.f2)
theorem Fits_own (l : List Kn) (i : Nat) (k : Kn) : Fits l i k ↔ Own i k ∧ ∀ p ∈ ps k, (rdK l p).f0 + 14 ≤ k.f0 := by
  unfold Fits Own
  simp only [mem_ps]
  constructor
  · rintro ⟨h0, h | ⟨h1, h2⟩⟩
    · refine ⟨⟨h0, by omega, by omega, by omega, by omega⟩, ?_⟩
      rintro p ⟨h3 | h3, h4⟩ <;> omega
    · rcases h2 with h2 | h2
      · refine ⟨⟨h0, by omega, by omega, by omega, by omega⟩, ?_⟩
        rintro p ⟨h3 | h3, h4⟩
        · subst h3; omega
        · omega
      · refine ⟨⟨h0, by omega, by omega, by omega, by omega⟩, ?_⟩
        rintro p ⟨h3 | h3, h4⟩
        · subst h3; omega
        · subst h3; omega
  · rintro ⟨⟨h0, h1, h2, h3, h4⟩, h5⟩
    refine ⟨h0, ?_⟩
    by_cases e : k.f1 = -1
    · exact .inl ⟨e, by omega⟩
    · refine .inr ⟨⟨by omega, by omega, ?_⟩, ?_⟩
      · have := h5 k.f1 ⟨.inl rfl, by omega⟩
        omega
      · by_cases e2 : k.f2 = -1
        · exact .inl e2
        · refine .inr ⟨by omega, by omega, ?_⟩
          have := h5 k.f2 ⟨.inr rfl, by omega⟩
          omega
theorem isFamily_l1 (l : List Kn) (i : Nat) (k : Kn) (r : Bool) (L : List Int) (hi : i < l.length) (hL : L.length ≤ 2) (hy : YearsTo l i) (hv : ∀ p ∈ L, 0 ≤ p ∧ p < (i : Int)) (hr : Ev (fun n => impl_IsFamily.l0 n l l (l.length : Int) (wrap64 ((i : Int) + 1))) r) (n : Nat) :
    ∀ j : Nat, j ≤ L.length → L.length - j ≤ n → Ev (fun n => impl_IsFamily.l1 n l l (l.length : Int) (i : Int) L (L.length : Int) (j : Int) k.f0 k.f1 k.f2) (if (∀ p ∈ L.drop j, (rdK l p).f0 + 14 ≤ k.f0) then r else false) := by
  have stop : Ev (fun n => impl_IsFamily.l1 n l l (l.length : Int) (i : Int) L (L.length : Int) (L.length : Int) k.f0 k.f1 k.f2) (if (∀ p ∈ L.drop L.length, (rdK l p).f0 + 14 ≤ k.f0) then r else false) := by
    rw [if_pos (by simp)]
    exact Ev.step (f := fun k => _) (fun k => by rw [impl_IsFamily.l1]) (ifn (by omega) hr)
  induction n with
  | zero =>
    intro j h1 h2
    obtain rfl : j = L.length := by omega
    exact stop
  | succ n ih =>
    intro j h1 h2
    by_cases hj : j < L.length
    · have hp := hv L[j] (List.getElem_mem hj)
      have hb : 0 ≤ (rd_T41 l L[j]).f0 ∧ (rd_T41 l L[j]).f0 ≤ 3000 := by
        obtain ⟨h3, e3⟩ := rdK_int l L[j] hp.1 (by omega)
        rw [e3]; exact hy _ (by omega) h3
      refine Ev.step (f := fun k => _) (fun k => by rw [impl_IsFamily.l1]) (ifp (by omega) (ifp (by omega) (ifp (by omega) ?_)))
      rw [rdI L j hj, w64 (j + 1) (by omega), w64 _ (by omega)]
      refine ifp hp.1 (ifp (by omega) ?_)
      have e : (∀ p ∈ L.drop j, (rdK l p).f0 + 14 ≤ k.f0) ↔ (rdK l L[j]).f0 + 14 ≤ k.f0 ∧ ∀ p ∈ L.drop (j + 1), (rdK l p).f0 + 14 ≤ k.f0 := by
        rw [List.drop_eq_getElem_cons hj]
        simp only [List.mem_cons, forall_eq_or_imp]
      by_cases h3 : (rdK l L[j]).f0 + 14 ≤ k.f0
      · have h3' : (rd_T41 l L[j]).f0 + 14 ≤ k.f0 := h3
        refine ifn (by omega) (evEq (ih (j + 1) (by omega) (by omega)) ?_)
        simp only [e, h3, true_and]
      · have h3' : ¬ (rd_T41 l L[j]).f0 + 14 ≤ k.f0 := h3
        refine ifp (by omega) (evEq now ?_)
        rw [if_neg (fun h => h3 (e.1 h).1)]
    · obtain rfl : j = L.length := by omega
      exact stop
theorem isFamily_j1 (l : List Kn) (i : Nat) (k : Kn) (x r : Bool) (hi : i < l.length) (hy : YearsTo l i) (h0 : 0 ≤ k.f0 ∧ k.f0 ≤ 3000) (h1 : -1 ≤ k.f1 ∧ k.f1 ≤ (i : Int) - 1) (h2 : -1 ≤ k.f2 ∧ k.f2 ≤ (i : Int) - 1) (hx : x = decide ((0 ≤ k.f2 ∧ k.f2 ≤ k.f1) ∨ (k.f1 < 0 ∧ 0 ≤ k.f2)))
    (hr : Ev (fun n => impl_IsFamily.l0 n l l (l.length : Int) (wrap64 ((i : Int) + 1))) r) : Ev (fun n => impl_IsFamily.j1 n l l (l.length : Int) (i : Int) x k.f0 k.f1 k.f2) (if Fits l i k then r else false) := by
  refine Ev.step (f := fun k => _) (fun k => by rw [impl_IsFamily.j1]) ?_
  subst hx
  by_cases h : (0 ≤ k.f2 ∧ k.f2 ≤ k.f1) ∨ (k.f1 < 0 ∧ 0 ≤ k.f2)
  · refine ifp (by simpa using h) (evEq now ?_)
    rw [if_neg]
    intro h3
    have := ((Fits_own l i k).1 h3).1
    unfold Own at this
    rcases h with h | h
    · exact this.2.2.2.1 h
    · exact this.2.2.2.2 h
  · refine ifn (by simpa using h) (call (parents_f k) ?_)
    have h4 := isFamily_l1 l i k r (ps k) hi (ps_len k) hy (fun p hp => by rw [mem_ps] at hp; omega) hr _ 0 (by omega) (Nat.le_refl _)
    refine evEq h4 ?_
    have e : (∀ p ∈ (ps k).drop 0, (rdK l p).f0 + 14 ≤ k.f0) ↔ Fits l i k := by
      rw [Fits_own, List.drop_zero]
      constructor
      · intro h5; exact ⟨⟨h0, h1, h2, fun h6 => h (.inl h6), fun h6 => h (.inr h6)⟩, h5⟩
      · exact fun h5 => h5.2
    simp only [e]
theorem isFamily_l (l : List Kn) (hl : l.length ≤ 1073741824) (n : Nat) : ∀ i : Nat, i ≤ l.length → l.length - i ≤ n → YearsTo l i → Ev (fun k => impl_IsFamily.l0 k l l (l.length : Int) (i : Int)) (dec (FamFrom l i)) := by
  have stop : Ev (fun k => impl_IsFamily.l0 k l l (l.length : Int) (l.length : Int)) (dec (FamFrom l l.length)) := by
    refine Ev.step (f := fun k => _) (fun k => by rw [impl_IsFamily.l0]) (ifn (by omega) (evEq now ?_))
    symm
    refine dec_pos ?_
    intro j h1 h2
    omega
  induction n with
  | zero =>
    intro i h1 h2 _
    obtain rfl : i = l.length := by omega
    exact stop
  | succ n ih =>
    intro i h1 h2 hy
    by_cases hi : i < l.length
    · have key : Ev (fun k => impl_IsFamily.l0 k l l (l.length : Int) (i : Int)) (if Fits l i l[i] then dec (FamFrom l (i + 1)) else false) ∨ Ev (fun k => impl_IsFamily.l0 k l l (l.length : Int) (i : Int)) (if Fits l i l[i] then dec (FamFrom l i) else false) := by
        generalize hk : l[i] = k
        have go : ∀ x : Bool, x = decide ((0 ≤ k.f2 ∧ k.f2 ≤ k.f1) ∨ (k.f1 < 0 ∧ 0 ≤ k.f2)) → (0 ≤ k.f0 ∧ k.f0 ≤ 3000) → (-1 ≤ k.f1 ∧ k.f1 ≤ (i : Int) - 1) → (-1 ≤ k.f2 ∧ k.f2 ≤ (i : Int) - 1) →
            Ev (fun n => impl_IsFamily.j1 n l l (l.length : Int) (i : Int) x k.f0 k.f1 k.f2) (if Fits l i k then dec (FamFrom l i) else false) := by
          intro x hx a0 a1 a2
          by_cases hf : Fits l i k
          · have h3 := ih (i + 1) (by omega) (by omega) (YearsTo_step l i hi (by rw [hk]; exact hf) hy)
            rw [show ((i + 1 : Nat) : Int) = wrap64 ((i : Int) + 1) by rw [w64 _ (by omega)]; rfl] at h3
            refine evEq (isFamily_j1 l i k x _ hi hy a0 a1 a2 hx h3) ?_
            rw [if_pos hf, if_pos hf]
            exact dec_congr (FamFrom_step l i hi (by rw [hk]; exact hf))
          · refine Ev.step (f := fun k => _) (fun k => by rw [impl_IsFamily.j1]) ?_
            subst hx
            rw [if_neg hf]
            by_cases h : (0 ≤ k.f2 ∧ k.f2 ≤ k.f1) ∨ (k.f1 < 0 ∧ 0 ≤ k.f2)
            · exact ifp (by simpa using h) now
            · refine ifn (by simpa using h) (call (parents_f k) ?_)
              have hex : ∃ j : Nat, j ≤ (ps k).length ∧ True := ⟨0, by omega, trivial⟩
              clear hex
              have nf : ¬ ∀ p ∈ ps k, (rdK l p).f0 + 14 ≤ k.f0 := fun h5 => hf ((Fits_own l i k).2 ⟨⟨a0, a1, a2, fun h6 => h (.inl h6), fun h6 => h (.inr h6)⟩, h5⟩)
              have stuck : ∀ (n : Nat) (j : Nat), j ≤ (ps k).length → (ps k).length - j ≤ n → (¬ ∀ p ∈ (ps k).drop j, (rdK l p).f0 + 14 ≤ k.f0) → Ev (fun n => impl_IsFamily.l1 n l l (l.length : Int) (i : Int) (ps k) ((ps k).length : Int) (j : Int) k.f0 k.f1 k.f2) false := by
                intro n
                induction n with
                | zero =>
                  intro j h1 h2 h3
                  exact absurd (by rw [List.drop_eq_nil_of_le (by omega)]; simp) h3
                | succ n ih2 =>
                  intro j h1 h2 h3
                  by_cases hj : j < (ps k).length
                  · have hL := ps_len k
                    have hp : 0 ≤ (ps k)[j] ∧ (ps k)[j] < (i : Int) := by
                      have := (mem_ps k (ps k)[j]).1 (List.getElem_mem hj)
                      omega
                    have hb : 0 ≤ (rd_T41 l (ps k)[j]).f0 ∧ (rd_T41 l (ps k)[j]).f0 ≤ 3000 := by
                      obtain ⟨h3, e3⟩ := rdK_int l (ps k)[j] hp.1 (by omega)
                      rw [e3]; exact hy _ (by omega) h3
                    refine Ev.step (f := fun k => _) (fun k => by rw [impl_IsFamily.l1]) (ifp (by omega) (ifp (by omega) (ifp (by omega) ?_)))
                    rw [rdI (ps k) j hj, w64 (j + 1) (by omega), w64 _ (by omega)]
                    refine ifp hp.1 (ifp (by omega) ?_)
                    by_cases h4 : (rdK l (ps k)[j]).f0 + 14 ≤ k.f0
                    · have h4' : (rd_T41 l (ps k)[j]).f0 + 14 ≤ k.f0 := h4
                      refine ifn (by omega) (ih2 (j + 1) (by omega) (by omega) ?_)
                      intro h5
                      apply h3
                      rw [List.drop_eq_getElem_cons hj]
                      simp only [List.mem_cons, forall_eq_or_imp]
                      exact ⟨h4, h5⟩
                    · have h4' : ¬ (rd_T41 l (ps k)[j]).f0 + 14 ≤ k.f0 := h4
                      exact ifp (by omega) now
                  · exact absurd (by rw [List.drop_eq_nil_of_le (by omega)]; simp) h3
              exact stuck _ 0 (by omega) (Nat.le_refl _) (by simpa using nf)
        have bad : ¬ Fits l i k → (false : Bool) = (if Fits l i k then dec (FamFrom l i) else false) := fun h => by rw [if_neg h]
        refine .inr (Ev.step (f := fun k => _) (fun k => by rw [impl_IsFamily.l0]) (ifp (by omega) (ifp (by omega) (ifp (by omega) ?_))))
        rw [rdK_get l i hi, hk, w64 ((i : Int) - 1) (by omega)]
        refine call (between _ _ _) ?_
        by_cases a0 : 0 ≤ k.f0 ∧ k.f0 ≤ 3000
        · refine ifp (by simpa using a0) (call (between _ _ _) ?_)
          by_cases a1 : -1 ≤ k.f1 ∧ k.f1 ≤ (i : Int) - 1
          · refine ifp (by simpa using a1) (call (between _ _ _) ?_)
            by_cases a2 : -1 ≤ k.f2 ∧ k.f2 ≤ (i : Int) - 1
            · refine ifp (by simpa using a2) ?_
              by_cases b0 : k.f2 ≥ 0
              · refine ifp b0 ?_
                by_cases b1 : k.f2 ≤ k.f1
                · exact ifp b1 (go _ (by symm; rw [decide_eq_true_iff]; omega) a0 a1 a2)
                · refine ifn b1 ?_
                  by_cases b2 : k.f1 < 0
                  · exact ifp b2 (go _ (by rw [decide_eq_decide]; omega) a0 a1 a2)
                  · exact ifn b2 (go _ (by symm; rw [decide_eq_false_iff_not]; omega) a0 a1 a2)
              · refine ifn b0 ?_
                by_cases b2 : k.f1 < 0
                · exact ifp b2 (go _ (by rw [decide_eq_decide]; omega) a0 a1 a2)
                · exact ifn b2 (go _ (by symm; rw [decide_eq_false_iff_not]; omega) a0 a1 a2)
            · refine ifn (by simpa using a2) ?_
              have nf : ¬ Fits l i k := fun h => a2 ((Fits_own l i k).1 h).1.2.2.1
              refine Ev.step (f := fun k => _) (fun k => by rw [impl_IsFamily.j1]) (ifp rfl (evEq now (bad nf)))
          · refine ifn (by simpa using a1) ?_
            have nf : ¬ Fits l i k := fun h => a1 ((Fits_own l i k).1 h).1.2.1
            refine Ev.step (f := fun k => _) (fun k => by rw [impl_IsFamily.j1]) (ifp rfl (evEq now (bad nf)))
        · refine ifn (by simpa using a0) ?_
          have nf : ¬ Fits l i k := fun h => a0 h.1
          refine Ev.step (f := fun k => _) (fun k => by rw [impl_IsFamily.j1]) (ifp rfl (evEq now (bad nf)))
      rcases key with key | key
      · refine evEq key ?_
        by_cases hf : Fits l i l[i]
        · rw [if_pos hf]; exact dec_congr (FamFrom_step l i hi hf)
        · rw [if_neg hf]; symm; exact dec_neg fun h => hf (h i (Nat.le_refl _) hi)
      · refine evEq key ?_
        by_cases hf : Fits l i l[i]
        · rw [if_pos hf]
        · rw [if_neg hf]; symm; exact dec_neg fun h => hf (h i (Nat.le_refl _) hi)
    · obtain rfl : i = l.length := by omega
      exact stop
theorem isFamily (l : List Kn) (hl : l.length ≤ 1073741824) : Ev (fun k => impl_IsFamily.f k l) (good l) := by
  unfold impl_IsFamily.f
  refine call (between _ _ _) ?_
  by_cases h : 1 ≤ l.length ∧ l.length ≤ 14
  · refine ifp (by simp; omega) (evEq (isFamily_l l hl _ 0 (by omega) (Nat.le_refl _) (fun j hj => absurd hj (Nat.not_lt_zero _))) ?_)
    refine dec_congr ?_
    constructor
    · intro h1; exact ⟨h, fun i hi => h1 i (by omega) hi⟩
    · intro h1 j _ hj; exact h1.2 j hj
  · refine ifn (by simp; omega) (evEq now ?_)
    rw [good_not l fun h1 => h h1.1]
end Go.Proofs.YtllihaahppelhaaGreat.Pr
namespace Go.Proofs.YtllihaahppelhaaGreat.Pr
open Go.RowKit Go.Proofs.YtllihaahppelhaaGreat.P Go.Proofs.YtllihaahppelhaaGreatW.PrintWords Go.Proofs.YtllihaahppelhaaGreat.E
theorem faParents_l (L : List Int) (hL : L.length ≤ 1000) (n : Nat) : ∀ (i : Nat) (acc : List Int), i ≤ L.length → L.length - i ≤ n → acc.length ≤ i →
    Ev (fun k => spec_faParents.l0 k acc L (L.length : Int) (i : Int)) (acc ++ (L.drop i).filter fun x => !decide (x < 0)) := by
  induction n with
  | zero =>
    intro i acc h1 h2 h3
    obtain rfl : i = L.length := by omega
    refine Ev.step (f := fun k => _) (fun k => by rw [spec_faParents.l0]) (ifn (by omega) (evEq now ?_))
    simp
  | succ n ih =>
    intro i acc h1 h2 h3
    by_cases hi : i < L.length
    · refine Ev.step (f := fun k => _) (fun k => by rw [spec_faParents.l0]) (ifp (by omega) (ifp (by omega) (ifp (by omega) ?_)))
      rw [rdI L i hi, w64 _ (by omega), List.drop_eq_getElem_cons hi]
      by_cases hx : L[i] ≥ 0
      · refine ifp hx (ifp (by omega) (evEq (ih (i + 1) (acc ++ [L[i]]) (by omega) (by omega) (by simp; omega)) ?_))
        rw [List.filter_cons_of_pos (by simpa using hx)]
        simp
      · refine ifn hx (evEq (ih (i + 1) acc (by omega) (by omega) (by omega)) ?_)
        rw [List.filter_cons_of_neg (by simp; omega)]
    · obtain rfl : i = L.length := by omega
      refine Ev.step (f := fun k => _) (fun k => by rw [spec_faParents.l0]) (ifn (by omega) (evEq now ?_))
      simp
theorem faParents (l : List Kn) (i : Nat) (hi : i < l.length) : Ev (fun k => spec_faParents.f k l (i : Int)) (ps l[i]) := by
  unfold spec_faParents.f
  refine ifp (by omega) (ifp (by omega) ?_)
  rw [rdK_get l i hi]
  exact faParents_l [l[i].f1, l[i].f2] (by simp) _ 0 [] (by omega) (Nat.le_refl _) (by simp)
end Go.Proofs.YtllihaahppelhaaGreat.Pr
namespace Go.Proofs.YtllihaahppelhaaGreat.Pr
open Go.RowKit Go.Proofs.YtllihaahppelhaaGreat.P Go.Proofs.YtllihaahppelhaaGreatW.PrintWords Go.Proofs.YtllihaahppelhaaGreat.E
/-- The parents of somebody. -/
abbrev pp (l : List Kn) (i : Int) : List Int := ps (rdK l i)
theorem faParentsI (l : List Kn) (i : Int) (h : 0 ≤ i ∧ i < (l.length : Int)) : Ev (fun k => spec_faParents.f k l i) (pp l i) := by
  obtain ⟨h2, e2⟩ := rdK_int l i h.1 h.2
  have := faParents l i.toNat h2
  rw [Int.toNat_of_nonneg h.1] at this
  show Ev _ (ps (rd_T41 l i))
  rw [e2]
  exact this
theorem Fam_pp (l : List Kn) (hf : Fam l) (i p : Int) (hi : 0 ≤ i ∧ i < (l.length : Int)) (hp : p ∈ pp l i) : 0 ≤ p ∧ p < i := by
  obtain ⟨h2, e2⟩ := rdK_int l i hi.1 hi.2
  change p ∈ ps (rd_T41 l i) at hp
  rw [e2] at hp
  have h3 := hf.2 _ h2
  have h4 := (mem_ps _ p).1 hp
  unfold Fits at h3
  omega
end Go.Proofs.YtllihaahppelhaaGreat.Pr
namespace Go.Proofs.YtllihaahppelhaaGreat.Pr
open Go.RowKit Go.Proofs.YtllihaahppelhaaGreat.P Go.Proofs.YtllihaahppelhaaGreatW.PrintWords Go.Proofs.YtllihaahppelhaaGreat.E
def inR (l : List Kn) (i : Int) : Bool := decide (0 ≤ i ∧ i < (l.length : Int))
theorem inR_iff (l : List Kn) (i : Int) : inR l i = true ↔ 0 ≤ i ∧ i < (l.length : Int) := by unfold inR; exact decide_eq_true_iff
theorem faWho (l : List Kn) (hl : l.length ≤ 1073741824) (a : Int) : Ev (fun k => spec_faWho.f k l a) (good l && inR l a) := by
  unfold spec_faWho.f
  refine Ev.bind (faGood l hl) ?_
  cases good l with
  | true =>
    refine ifp rfl (call (l1In _ _ _) (evEq now ?_))
    rw [w64 _ (by omega), Bool.true_and]
    unfold inR
    rw [decide_eq_decide]; omega
  | false => exact ifn (by simp) now
theorem areBetween_f (L : List Int) (lo hi : Int) : impl_areBetween.f L lo hi = some (L.all fun n => decide (lo ≤ n) && decide (n ≤ hi)) := rfl
theorem hasKin (l : List Kn) (hl : l.length ≤ 1073741824) (L : List Int) : Ev (fun k => impl_hasKin.f k l L) (good l && L.all (inR l)) := by
  unfold impl_hasKin.f
  refine Ev.bind (isFamily l hl) ?_
  cases good l with
  | true =>
    refine ifp rfl (call (areBetween_f _ _ _) (evEq now ?_))
    rw [w64 _ (by omega), Bool.true_and]
    congr 1
    funext n
    unfold inR
    rw [Bool.eq_iff_iff]
    simp
    omega
  | false => exact ifn (by simp) now
end Go.Proofs.YtllihaahppelhaaGreat.Pr
namespace Go.Proofs.YtllihaahppelhaaGreat.Pr
open Go.RowKit Go.Proofs.YtllihaahppelhaaGreat.P Go.Proofs.YtllihaahppelhaaGreatW.PrintWords Go.Proofs.YtllihaahppelhaaGreat.E
theorem faTwo (l : List Kn) (hl : l.length ≤ 1073741824) (a b : Int) : Ev (fun k => spec_faTwo.f k l a b) (good l && (inR l a && inR l b)) := by
  unfold spec_faTwo.f
  refine Ev.bind (faWho l hl a) ?_
  rw [← Bool.and_assoc]
  cases good l && inR l a with
  | true =>
    refine ifp rfl (call (l1In _ _ _) (evEq now ?_))
    rw [w64 _ (by omega), Bool.true_and]
    unfold inR
    rw [decide_eq_decide]; omega
  | false => exact ifn (by simp) now
end Go.Proofs.YtllihaahppelhaaGreat.Pr
namespace Go.Proofs.YtllihaahppelhaaGreat.Pr
open Go.RowKit Go.Proofs.YtllihaahppelhaaGreat.P Go.Proofs.YtllihaahppelhaaGreatW.PrintWords Go.Proofs.YtllihaahppelhaaGreat.E
theorem l1Has_l (x : Int) (L : List Int) (hL : L.length ≤ 1073741824) (n : Nat) : ∀ i : Nat, i ≤ L.length → L.length - i ≤ n → Ev (fun k => spec_l1Has.l0 k x L (L.length : Int) (i : Int)) ((L.drop i).contains x) := by
  induction n with
  | zero =>
    intro i h1 h2
    obtain rfl : i = L.length := by omega
    exact Ev.step (f := fun k => _) (fun k => by rw [spec_l1Has.l0]) (ifn (by omega) (evEq now (by simp)))
  | succ n ih =>
    intro i h1 h2
    by_cases hi : i < L.length
    · refine Ev.step (f := fun k => _) (fun k => by rw [spec_l1Has.l0]) (ifp (by omega) (ifp (by omega) (ifp (by omega) ?_)))
      rw [rdI L i hi, w64 _ (by omega), List.drop_eq_getElem_cons hi, List.contains_cons]
      by_cases hx : L[i] = x
      · exact ifp hx (evEq now (by simp [hx]))
      · have h5 : (x == L[i]) = false := by simpa using fun h => hx h.symm
        rw [h5, Bool.false_or]
        exact ifn hx (ih (i + 1) (by omega) (by omega))
    · obtain rfl : i = L.length := by omega
      exact Ev.step (f := fun k => _) (fun k => by rw [spec_l1Has.l0]) (ifn (by omega) (evEq now (by simp)))
theorem l1Has (x : Int) (L : List Int) (hL : L.length ≤ 1073741824) : Ev (fun k => spec_l1Has.f k L x) (L.contains x) := l1Has_l x L hL _ 0 (by omega) (Nat.le_refl _)
end Go.Proofs.YtllihaahppelhaaGreat.Pr
namespace Go.Proofs.YtllihaahppelhaaGreat.Pr
open Go.RowKit Go.Proofs.YtllihaahppelhaaGreat.P Go.Proofs.YtllihaahppelhaaGreatW.PrintWords Go.Proofs.YtllihaahppelhaaGreat.E
def shared (l : List Kn) (a b : Int) : List Int := (pp l a).filter fun x => (pp l b).contains x
theorem faShared_l (l : List Kn) (b : Int) (hb : 0 ≤ b ∧ b < (l.length : Int)) (L : List Int) (hL : L.length ≤ 1000) (n : Nat) : ∀ (i : Nat) (c : Nat), i ≤ L.length → L.length - i ≤ n → c ≤ i →
    Ev (fun k => spec_faShared.l0 k l b (c : Int) L (L.length : Int) (i : Int)) ((c + ((L.drop i).filter fun x => (pp l b).contains x).length : Nat) : Int) := by
  have stop : ∀ c : Nat, Ev (fun k => spec_faShared.l0 k l b (c : Int) L (L.length : Int) (L.length : Int)) ((c + ((L.drop L.length).filter fun x => (pp l b).contains x).length : Nat) : Int) := fun c =>
    Ev.step (f := fun k => _) (fun k => by rw [spec_faShared.l0]) (ifn (by omega) (evEq now (by simp)))
  induction n with
  | zero =>
    intro i c h1 h2 h3
    obtain rfl : i = L.length := by omega
    exact stop c
  | succ n ih =>
    intro i c h1 h2 h3
    by_cases hi : i < L.length
    · refine Ev.step (f := fun k => _) (fun k => by rw [spec_faShared.l0]) (ifp (by omega) (ifp (by omega) (ifp (by omega) ?_)))
      refine Ev.bind (faParentsI l b hb) ?_
      rw [rdI L i hi, w64 (i + 1) (by omega), w64 (c + 1) (by omega)]
      refine Ev.bind (l1Has _ _ (Nat.le_trans (ps_len _) (by decide))) ?_
      rw [List.drop_eq_getElem_cons hi]
      cases h : (pp l b).contains L[i] with
      | true =>
        refine ifp rfl ?_
        rw [List.filter_cons_of_pos h]
        refine evEq (ih (i + 1) (c + 1) (by omega) (by omega) (by omega)) ?_
        rw [List.length_cons]
        exact congrArg Nat.cast ((show ∀ x : Nat, c + 1 + x = c + (x + 1) from fun x => by omega) _)
      | false =>
        refine ifn (by simp) ?_
        rw [List.filter_cons_of_neg (by simpa using h)]
        exact ih (i + 1) c (by omega) (by omega) (by omega)
    · obtain rfl : i = L.length := by omega
      exact stop c
theorem faShared (l : List Kn) (a b : Int) (ha : 0 ≤ a ∧ a < (l.length : Int)) (hb : 0 ≤ b ∧ b < (l.length : Int)) : Ev (fun k => spec_faShared.f k l a b) ((shared l a b).length : Int) := by
  unfold spec_faShared.f
  refine Ev.bind (faParentsI l a ha) ?_
  refine evEq (faShared_l l b hb (pp l a) (Nat.le_trans (ps_len _) (by decide)) _ 0 0 (by omega) (Nat.le_refl _) (by omega)) ?_
  simp [shared]
theorem inCommon (l : List Kn) (a b : Int) (ha : 0 ≤ a ∧ a < (l.length : Int)) (hb : 0 ≤ b ∧ b < (l.length : Int)) : impl_inCommon.f l a b = some (if a = b then 0 else ((shared l a b).length : Int)) := by
  have e : ∀ i : Int, impl_Kin_parents.f (rd_T41 l i).f0 (rd_T41 l i).f1 (rd_T41 l i).f2 = some (pp l i) := fun i => rfl
  have h2 : impl_common.f (pp l a) (pp l b) = some (shared l a b) := if_pos (Nat.lt_of_le_of_lt (ps_len _) (by decide))
  unfold impl_inCommon.f
  by_cases h : a = b
  · rw [if_pos h, if_pos h]
  · rw [if_neg h, if_neg h, if_pos ha.1, if_pos ha.2, e a]
    simp only [Option.bind_some]
    rw [if_pos hb.1, if_pos hb.2, e b]
    simp only [Option.bind_some]
    rw [h2]
    rfl
/-- Are they siblings? -/
def sib (l : List Kn) (a b : Int) : Bool := if a = b then false else decide (((shared l a b).length : Int) > 0)
theorem faSiblings (l : List Kn) (a b : Int) (ha : 0 ≤ a ∧ a < (l.length : Int)) (hb : 0 ≤ b ∧ b < (l.length : Int)) : Ev (fun k => spec_faSiblings.f k l a b) (sib l a b) := by
  unfold spec_faSiblings.f
  by_cases h : a = b
  · exact ifp h (evEq now (by rw [sib, if_pos h]))
  · refine ifn h (Ev.bind (faShared l a b ha hb) (evEq now (by rw [sib, if_neg h])))
theorem areSiblings (l : List Kn) (a b : Int) (ha : 0 ≤ a ∧ a < (l.length : Int)) (hb : 0 ≤ b ∧ b < (l.length : Int)) : impl_areSiblings.f l a b = some (sib l a b) := by
  unfold impl_areSiblings.f
  rw [inCommon l a b ha hb]
  simp only [Option.bind_some]
  unfold sib
  by_cases h : a = b
  · rw [if_pos h, if_pos h]; rfl
  · rw [if_neg h, if_neg h]
def aunt (l : List Kn) (a b : Int) : Bool := (pp l b).any fun p => sib l a p
theorem isAunt (l : List Kn) (hf : Fam l) (a b : Int) (ha : 0 ≤ a ∧ a < (l.length : Int)) (hb : 0 ≤ b ∧ b < (l.length : Int)) : impl_isAunt.f l a b = some (aunt l a b) := by
  have hs : ∀ p ∈ pp l b, impl_areSiblings.f l a p = some (sib l a p) := fun p hp => by
    have := Fam_pp l hf b p hb hp
    exact areSiblings l a p ha (by omega)
  have e : impl_isAunt.ps l b = pp l b := rfl
  unfold impl_isAunt.f
  rw [if_pos hb, e, if_pos (List.all_eq_true.2 fun p hp => by rw [hs p hp]; rfl)]
  congr 1
  unfold aunt
  rw [Bool.eq_iff_iff, List.any_eq_true, List.any_eq_true]
  constructor
  · rintro ⟨p, h1, h2⟩; rw [hs p h1] at h2; exact ⟨p, h1, h2⟩
  · rintro ⟨p, h1, h2⟩; refine ⟨p, h1, ?_⟩; rw [hs p h1]; exact h2
def cous (l : List Kn) (a b : Int) : Bool := if a = b then false else if sib l a b = true then false else (pp l a).any fun p => aunt l p b
theorem areCousins (l : List Kn) (hf : Fam l) (a b : Int) (ha : 0 ≤ a ∧ a < (l.length : Int)) (hb : 0 ≤ b ∧ b < (l.length : Int)) : impl_areCousins.f l a b = some (cous l a b) := by
  have hs : ∀ p ∈ pp l a, impl_isAunt.f l p b = some (aunt l p b) := fun p hp => by
    have := Fam_pp l hf a p ha hp
    exact isAunt l hf p b (by omega) hb
  have e : impl_isAunt.ps l a = pp l a := rfl
  unfold impl_areCousins.f cous
  by_cases h : a = b
  · rw [if_pos h, if_pos h]
  · rw [if_neg h, if_neg h, areSiblings l a b ha hb]
    simp only [Option.bind_some]
    by_cases h2 : sib l a b = true
    · rw [if_pos h2, if_pos h2]
    · rw [if_neg h2, if_neg h2, if_pos ha, e, if_pos (List.all_eq_true.2 fun p hp => by rw [hs p hp]; rfl)]
      congr 1
      rw [Bool.eq_iff_iff, List.any_eq_true, List.any_eq_true]
      constructor
      · rintro ⟨p, h1, h2⟩; rw [hs p h1] at h2; exact ⟨p, h1, h2⟩
      · rintro ⟨p, h1, h2⟩; refine ⟨p, h1, ?_⟩; rw [hs p h1]; exact h2
theorem faCousins_l1 (l : List Kn) (b p : Int) (r : Bool) (L M : List Int) (i : Nat) (hp : 0 ≤ p ∧ p < (l.length : Int)) (hM : M.length ≤ 1000) (hM2 : ∀ q ∈ M, 0 ≤ q ∧ q < (l.length : Int)) (hr : Ev (fun k => spec_faCousins.l0 k l b L (L.length : Int) (wrap64 ((i : Int) + 1))) r) (n : Nat) :
    ∀ j : Nat, j ≤ M.length → M.length - j ≤ n → Ev (fun k => spec_faCousins.l1 k l b p L (L.length : Int) (i : Int) M (M.length : Int) (j : Int)) (((M.drop j).any fun q => sib l p q) || r) := by
  have stop : Ev (fun k => spec_faCousins.l1 k l b p L (L.length : Int) (i : Int) M (M.length : Int) (M.length : Int)) (((M.drop M.length).any fun q => sib l p q) || r) := by
    refine Ev.step (f := fun k => _) (fun k => by rw [spec_faCousins.l1]) (ifn (by omega) (evEq hr ?_))
    simp
  induction n with
  | zero =>
    intro j h1 h2
    obtain rfl : j = M.length := by omega
    exact stop
  | succ n ih =>
    intro j h1 h2
    by_cases hj : j < M.length
    · refine Ev.step (f := fun k => _) (fun k => by rw [spec_faCousins.l1]) (ifp (by omega) (ifp (by omega) (ifp (by omega) ?_)))
      rw [rdI M j hj, w64 (j + 1) (by omega)]
      refine Ev.bind (faSiblings l p M[j] hp (hM2 _ (List.getElem_mem hj))) ?_
      rw [List.drop_eq_getElem_cons hj, List.any_cons]
      cases h : sib l p M[j] with
      | true => exact ifp rfl (evEq now (by simp))
      | false => exact ifn (by simp) (evEq (ih (j + 1) (by omega) (by omega)) (by simp))
    · obtain rfl : j = M.length := by omega
      exact stop
theorem faCousins_l (l : List Kn) (hf : Fam l) (b : Int) (hb : 0 ≤ b ∧ b < (l.length : Int)) (L : List Int) (hL : L.length ≤ 1000) (hL2 : ∀ q ∈ L, 0 ≤ q ∧ q < (l.length : Int)) (n : Nat) :
    ∀ i : Nat, i ≤ L.length → L.length - i ≤ n → Ev (fun k => spec_faCousins.l0 k l b L (L.length : Int) (i : Int)) ((L.drop i).any fun p => aunt l p b) := by
  have stop : Ev (fun k => spec_faCousins.l0 k l b L (L.length : Int) (L.length : Int)) ((L.drop L.length).any fun p => aunt l p b) := by
    refine Ev.step (f := fun k => _) (fun k => by rw [spec_faCousins.l0]) (ifn (by omega) (evEq now ?_))
    simp
  induction n with
  | zero =>
    intro i h1 h2
    obtain rfl : i = L.length := by omega
    exact stop
  | succ n ih =>
    intro i h1 h2
    by_cases hi : i < L.length
    · refine Ev.step (f := fun k => _) (fun k => by rw [spec_faCousins.l0]) (ifp (by omega) (ifp (by omega) (ifp (by omega) ?_)))
      refine Ev.bind (faParentsI l b hb) ?_
      rw [rdI L i hi, List.drop_eq_getElem_cons hi, List.any_cons]
      have hr := ih (i + 1) (by omega) (by omega)
      rw [show ((i + 1 : Nat) : Int) = wrap64 ((i : Int) + 1) by rw [w64 _ (by omega)]; rfl] at hr
      have := faCousins_l1 l b L[i] _ L (pp l b) i (hL2 _ (List.getElem_mem hi)) (Nat.le_trans (ps_len _) (by decide)) (fun q hq => by have := Fam_pp l hf b q hb hq; omega) hr _ 0 (by omega) (Nat.le_refl _)
      exact this
    · obtain rfl : i = L.length := by omega
      exact stop
theorem faCousins (l : List Kn) (hf : Fam l) (a b : Int) (ha : 0 ≤ a ∧ a < (l.length : Int)) (hb : 0 ≤ b ∧ b < (l.length : Int)) : Ev (fun k => spec_faCousins.f k l a b) (cous l a b) := by
  unfold spec_faCousins.f cous
  by_cases h : a = b
  · rw [if_pos h]
    refine ifp h (Ev.step (f := fun k => _) (fun k => by rw [spec_faCousins.j0]) (ifp rfl now))
  · refine evEq (ifn h (Ev.bind (faSiblings l a b ha hb) (Ev.step (f := fun k => _) (fun k => by rw [spec_faCousins.j0]) ?_))) (if_neg h).symm
    by_cases h2 : sib l a b = true
    · exact ifp h2 (evEq now (if_pos h2).symm)
    · refine ifn h2 (Ev.bind (faParentsI l a ha) (evEq ?_ (if_neg h2).symm))
      exact faCousins_l l hf b hb (pp l a) (Nat.le_trans (ps_len _) (by decide)) (fun q hq => by have := Fam_pp l hf a q ha hq; omega) _ 0 (by omega) (Nat.le_refl _)
end Go.Proofs.YtllihaahppelhaaGreat.Pr
namespace Go.Proofs.YtllihaahppelhaaGreat.Pr
open Go.RowKit Go.Proofs.YtllihaahppelhaaGreat.P Go.Proofs.YtllihaahppelhaaGreatW.PrintWords Go.Proofs.YtllihaahppelhaaGreat.E
theorem index (L : List Int) (hL : L.length ≤ 1073741824) (x : Int) (n : Nat) : ∀ i : Nat, i ≤ L.length → L.length - i ≤ n → Ev (fun k => (slices_Index_int_int.l0 k L x (L.length : Int) (i : Int)).bind fun t => some (decide (t ≥ 0))) ((L.drop i).contains x) := by
  induction n with
  | zero =>
    intro i h1 h2
    obtain rfl : i = L.length := by omega
    refine Ev.step (f := fun k => some ((L.drop L.length).contains x)) (fun k => by rw [slices_Index_int_int.l0, if_neg (by omega)]; simp) now
  | succ n ih =>
    intro i h1 h2
    by_cases hi : i < L.length
    · by_cases hx : x = L[i]
      · refine Ev.step (f := fun k => some ((L.drop i).contains x)) (fun k => ?_) now
        rw [slices_Index_int_int.l0, if_pos (by omega), if_pos (by omega), if_pos (by omega), rdI L i hi, if_pos hx, List.drop_eq_getElem_cons hi, List.contains_cons, hx]
        simp
      · refine Ev.step (f := fun k => (slices_Index_int_int.l0 k L x (L.length : Int) ((i + 1 : Nat) : Int)).bind fun t => some (decide (t ≥ 0))) (fun k => ?_) (evEq (ih (i + 1) (by omega) (by omega)) ?_)
        · rw [slices_Index_int_int.l0, if_pos (by omega), if_pos (by omega), if_pos (by omega), rdI L i hi, if_neg (by simpa using hx), w64 _ (by omega)]; rfl
        · rw [List.drop_eq_getElem_cons hi, List.contains_cons]
          simp [hx]
    · obtain rfl : i = L.length := by omega
      refine Ev.step (f := fun k => some ((L.drop L.length).contains x)) (fun k => by rw [slices_Index_int_int.l0, if_neg (by omega)]; simp) now
theorem contains (L : List Int) (hL : L.length ≤ 1073741824) (x : Int) : Ev (fun k => slices_Contains_int_int.f k L x) (L.contains x) := index L hL x _ 0 (by omega) (Nat.le_refl _)
end Go.Proofs.YtllihaahppelhaaGreat.Pr
namespace Go.Proofs.YtllihaahppelhaaGreat.Pr
open Go.RowKit Go.Proofs.YtllihaahppelhaaGreat.P Go.Proofs.YtllihaahppelhaaGreatW.PrintWords Go.Proofs.YtllihaahppelhaaGreat.E
theorem isParent (l : List Kn) (a b : Int) (hb : 0 ≤ b ∧ b < (l.length : Int)) : Ev (fun k => impl_isParent.f k l a b) ((pp l b).contains a) := by
  unfold impl_isParent.f
  exact ifp hb.1 (ifp hb.2 (call (parents_f (rdK l b)) (Ev.bind (contains _ (Nat.le_trans (ps_len _) (by decide)) a) now)))
theorem faParent (l : List Kn) (a b : Int) : Ev (fun k => spec_l1Has.f k (pp l b) a) ((pp l b).contains a) := l1Has a _ (Nat.le_trans (ps_len _) (by decide))
def grand (l : List Kn) (a b : Int) : Bool := (pp l b).any fun p => (pp l p).contains a
theorem isGrand (l : List Kn) (hf : Fam l) (a b : Int) (hb : 0 ≤ b ∧ b < (l.length : Int)) : impl_isGrand.f l a b = some (grand l a b) := by
  have e : ∀ i, impl_isAunt.ps l i = pp l i := fun _ => rfl
  unfold impl_isGrand.f
  rw [if_pos hb, e, if_pos (List.all_eq_true.2 fun p hp => by have := Fam_pp l hf b p hb hp; exact decide_eq_true ⟨by omega, by omega⟩)]
  rfl
theorem faGrand_l (l : List Kn) (a : Int) (L : List Int) (hL : L.length ≤ 1000) (hv : ∀ p ∈ L, 0 ≤ p ∧ p < (l.length : Int)) (n : Nat) : ∀ i : Nat, i ≤ L.length → L.length - i ≤ n → Ev (fun k => spec_faGrand.l0 k l a L (L.length : Int) (i : Int)) ((L.drop i).any fun p => (pp l p).contains a) := by
  have stop : Ev (fun k => spec_faGrand.l0 k l a L (L.length : Int) (L.length : Int)) ((L.drop L.length).any fun p => (pp l p).contains a) := by
    refine Ev.step (f := fun k => _) (fun k => by rw [spec_faGrand.l0]) (ifn (by omega) (evEq now ?_))
    simp
  induction n with
  | zero =>
    intro i h1 h2
    obtain rfl : i = L.length := by omega
    exact stop
  | succ n ih =>
    intro i h1 h2
    by_cases hi : i < L.length
    · refine Ev.step (f := fun k => _) (fun k => by rw [spec_faGrand.l0]) (ifp (by omega) (ifp (by omega) (ifp (by omega) ?_)))
      rw [rdI L i hi, w64 _ (by omega), List.drop_eq_getElem_cons hi, List.any_cons]
      refine Ev.bind (faParentsI l L[i] (hv _ (List.getElem_mem hi))) (Ev.bind (faParent l a L[i]) ?_)
      cases h : (pp l L[i]).contains a with
      | true => exact ifp rfl (evEq now (by simp))
      | false => exact ifn (by simp) (evEq (ih (i + 1) (by omega) (by omega)) (by simp))
    · obtain rfl : i = L.length := by omega
      exact stop
theorem faGrand (l : List Kn) (hf : Fam l) (a b : Int) (hb : 0 ≤ b ∧ b < (l.length : Int)) : Ev (fun k => spec_faGrand.f k l a b) (grand l a b) := by
  unfold spec_faGrand.f
  refine Ev.bind (faParentsI l b hb) ?_
  exact faGrand_l l a (pp l b) (Nat.le_trans (ps_len _) (by decide)) (fun p hp => by have := Fam_pp l hf b p hb hp; omega) _ 0 (by omega) (Nat.le_refl _)
theorem faAunt_l (l : List Kn) (a : Int) (ha : 0 ≤ a ∧ a < (l.length : Int)) (L : List Int) (hL : L.length ≤ 1000) (hv : ∀ p ∈ L, 0 ≤ p ∧ p < (l.length : Int)) (n : Nat) : ∀ i : Nat, i ≤ L.length → L.length - i ≤ n → Ev (fun k => spec_faAunt.l0 k l a L (L.length : Int) (i : Int)) ((L.drop i).any fun p => sib l a p) := by
  have stop : Ev (fun k => spec_faAunt.l0 k l a L (L.length : Int) (L.length : Int)) ((L.drop L.length).any fun p => sib l a p) := by
    refine Ev.step (f := fun k => _) (fun k => by rw [spec_faAunt.l0]) (ifn (by omega) (evEq now ?_))
    simp
  induction n with
  | zero =>
    intro i h1 h2
    obtain rfl : i = L.length := by omega
    exact stop
  | succ n ih =>
    intro i h1 h2
    by_cases hi : i < L.length
    · refine Ev.step (f := fun k => _) (fun k => by rw [spec_faAunt.l0]) (ifp (by omega) (ifp (by omega) (ifp (by omega) ?_)))
      rw [rdI L i hi, w64 _ (by omega), List.drop_eq_getElem_cons hi, List.any_cons]
      refine Ev.bind (faSiblings l a L[i] ha (hv _ (List.getElem_mem hi))) ?_
      cases h : sib l a L[i] with
      | true => exact ifp rfl (evEq now (by simp))
      | false => exact ifn (by simp) (evEq (ih (i + 1) (by omega) (by omega)) (by simp))
    · obtain rfl : i = L.length := by omega
      exact stop
theorem faAunt (l : List Kn) (hf : Fam l) (a b : Int) (ha : 0 ≤ a ∧ a < (l.length : Int)) (hb : 0 ≤ b ∧ b < (l.length : Int)) : Ev (fun k => spec_faAunt.f k l a b) (aunt l a b) := by
  unfold spec_faAunt.f
  refine Ev.bind (faParentsI l b hb) ?_
  exact faAunt_l l a ha (pp l b) (Nat.le_trans (ps_len _) (by decide)) (fun p hp => by have := Fam_pp l hf b p hb hp; omega) _ 0 (by omega) (Nat.le_refl _)
end Go.Proofs.YtllihaahppelhaaGreat.Pr
namespace Go.Proofs.YtllihaahppelhaaGreat.Pr
open Go.RowKit Go.Proofs.YtllihaahppelhaaGreat.P Go.Proofs.YtllihaahppelhaaGreatW.PrintWords Go.Proofs.YtllihaahppelhaaGreat.E
/-- Two increasing lists of the same numbers are one. -/
theorem inc_ext : ∀ (xs ys : List Int), xs.Pairwise (· < ·) → ys.Pairwise (· < ·) → (∀ x, x ∈ xs ↔ x ∈ ys) → xs = ys
  | [], [], _, _, _ => rfl
  | [], y :: ys, _, _, h => by have := (h y).2 (List.mem_cons_self ..); cases this
  | x :: xs, [], _, _, h => by have := (h x).1 (List.mem_cons_self ..); cases this
  | x :: xs, y :: ys, hx, hy, h => by
    have hx' := List.pairwise_cons.1 hx
    have hy' := List.pairwise_cons.1 hy
    have e : x = y := by
      rcases List.mem_cons.1 ((h x).1 (List.mem_cons_self ..)) with e | e
      · exact e
      · rcases List.mem_cons.1 ((h y).2 (List.mem_cons_self ..)) with e2 | e2
        · exact e2.symm
        · have := hy'.1 x e
          have := hx'.1 y e2
          omega
    subst e
    congr 1
    refine inc_ext xs ys hx'.2 hy'.2 (fun z => ⟨fun hz => ?_, fun hz => ?_⟩)
    · rcases List.mem_cons.1 ((h z).1 (List.mem_cons_of_mem _ hz)) with e | e
      · have := hx'.1 z hz
        omega
      · exact e
    · rcases List.mem_cons.1 ((h z).2 (List.mem_cons_of_mem _ hz)) with e | e
      · have := hy'.1 z hz
        omega
      · exact e
theorem arr_get (xs : List Int) (j : Nat) (h : j < xs.length) : xs.toArray[j]! = xs[j] := by simp [getElem!_pos, h]
theorem cmp_up (xs : List Int) (hs : xs.Pairwise (· ≤ ·)) : ∀ m, m ≤ xs.length → (Lib.compactUpTo xs.toArray m).Pairwise (· < ·) ∧ ∀ x, x ∈ Lib.compactUpTo xs.toArray m ↔ x ∈ xs.take m := by
  intro m
  induction m with
  | zero => intro _; exact ⟨by simp [Lib.compactUpTo], by simp [Lib.compactUpTo]⟩
  | succ m ih =>
    intro hm
    obtain ⟨h1, h2⟩ := ih (by omega)
    have hlt : m < xs.length := by omega
    have ht : xs.take (m + 1) = xs.take m ++ [xs[m]] := List.take_succ_eq_append_getElem hlt
    have hle : ∀ x, x ∈ xs.take m → x ≤ xs[m] := by
      intro x hx
      obtain ⟨i, hi, rfl⟩ := List.mem_iff_getElem.1 hx
      rw [List.length_take] at hi
      rw [List.getElem_take]
      exact List.pairwise_iff_getElem.1 hs i m (by omega) hlt (by omega)
    rw [Lib.compactUpTo_succ]
    cases hk : Lib.keeps xs.toArray m with
    | true =>
      have hlt2 : ∀ x, x ∈ xs.take m → x < xs[m] := by
        intro x hx
        have h3 := hle x hx
        obtain ⟨i, hi, e⟩ := List.mem_iff_getElem.1 hx
        rw [List.length_take] at hi
        have hm0 : m ≠ 0 := by omega
        have hne : xs[m] ≠ xs[m - 1] := by
          unfold Lib.keeps at hk
          rw [arr_get xs m hlt, arr_get xs (m - 1) (by omega)] at hk
          simpa [hm0] using hk
        have h4 : xs[m - 1] ≤ xs[m] := List.pairwise_iff_getElem.1 hs (m - 1) m (by omega) hlt (by omega)
        have h5 : x ≤ xs[m - 1] := by
          rw [← e, List.getElem_take]
          by_cases h6 : i = m - 1
          · subst h6; exact Int.le_refl _
          · exact List.pairwise_iff_getElem.1 hs i (m - 1) (by omega) (by omega) (by omega)
        omega
      rw [if_pos rfl, arr_get xs m hlt, ht]
      refine ⟨List.pairwise_append.2 ⟨h1, by simp, fun a ha b hb => ?_⟩, fun x => ?_⟩
      · rw [List.mem_singleton.1 hb]
        exact hlt2 a ((h2 a).1 ha)
      · rw [List.mem_append, List.mem_append, h2 x]
    | false =>
      rw [if_neg (by simp), List.append_nil, ht]
      refine ⟨h1, fun x => ?_⟩
      rw [List.mem_append, h2 x]
      refine ⟨Or.inl, fun h => ?_⟩
      rcases h with h | h
      · exact h
      · have hm0 : m ≠ 0 := by
          rintro rfl
          simp [Lib.keeps] at hk
        have he : xs[m] = xs[m - 1] := by
          unfold Lib.keeps at hk
          rw [arr_get xs m hlt, arr_get xs (m - 1) (by omega)] at hk
          simpa [hm0] using hk
        rw [List.mem_singleton.1 h, he]
        refine List.mem_iff_getElem.2 ⟨m - 1, by rw [List.length_take]; omega, ?_⟩
        rw [List.getElem_take]
/-- Numbers in order, each once. -/
def dist (xs : List Int) : List Int := Lib.compact (xs.mergeSort fun x y => decide (x ≤ y))
theorem sorted (xs : List Int) : (xs.mergeSort fun x y => decide (x ≤ y)).Pairwise (· ≤ ·) := by
  have h := List.pairwise_mergeSort (le := fun x y : Int => decide (x ≤ y)) (fun a b c h1 h2 => by simp at *; omega) (fun a b => by simp; omega) xs
  exact h.imp (fun h => by simpa using h)
theorem dist_inc (xs : List Int) : (dist xs).Pairwise (· < ·) := (cmp_up _ (sorted xs) _ (Nat.le_of_eq (by simp))).1
theorem dist_mem (xs : List Int) (x : Int) : x ∈ dist xs ↔ x ∈ xs := by
  have h := (cmp_up _ (sorted xs) _ (Nat.le_refl _)).2 x
  unfold dist Lib.compact
  rw [h, List.take_length, List.mem_mergeSort]
/-- All whole numbers below n of which something is so. -/
noncomputable def upTo (n : Nat) (p : Int → Prop) : List Int := ((List.range n).filter fun i : Nat => dec (p (i : Int))).map fun i : Nat => (i : Int)
theorem upTo_mem (n : Nat) (p : Int → Prop) (x : Int) : x ∈ upTo n p ↔ (0 ≤ x ∧ x < (n : Int)) ∧ p x := by
  unfold upTo
  rw [List.mem_map]
  constructor
  · rintro ⟨i, hi, rfl⟩
    have h := List.mem_filter.1 hi
    have h2 := List.mem_range.1 h.1
    exact ⟨by omega, (dec_iff _).1 h.2⟩
  · rintro ⟨h, hp⟩
    refine ⟨x.toNat, List.mem_filter.2 ⟨List.mem_range.2 (by omega), ?_⟩, by omega⟩
    rw [show ((x.toNat : Nat) : Int) = x by omega]
    exact dec_pos hp
theorem upTo_inc (n : Nat) (p : Int → Prop) : (upTo n p).Pairwise (· < ·) := by
  unfold upTo
  refine List.Pairwise.map _ (fun a b h => ?_) ((List.pairwise_lt_range (n := n)).filter _)
  exact Int.ofNat_lt.2 h
theorem upTo_len (n : Nat) (p : Int → Prop) : (upTo n p).length ≤ n := by
  unfold upTo
  rw [List.length_map]
  exact Nat.le_trans (List.length_filter_le _ _) (by simp)
theorem upTo_eq (n : Nat) (p : Int → Prop) (xs : List Int) (hi : xs.Pairwise (· < ·)) (h : ∀ x, x ∈ xs ↔ (0 ≤ x ∧ x < (n : Int)) ∧ p x) : xs = upTo n p :=
  inc_ext _ _ hi (upTo_inc n p) (fun x => (h x).trans (upTo_mem n p x).symm)
/-- x is an ancestor of y. -/
inductive Anc (l : List Kn) : Int → Int → Prop
  | one {x y : Int} (h : x ∈ pp l y) : Anc l x y
  | more {x y z : Int} (h : x ∈ pp l y) (k : Anc l y z) : Anc l x z
theorem Anc_lt (l : List Kn) (hf : Fam l) (x y : Int) (h : Anc l x y) (hy : 0 ≤ y ∧ y < (l.length : Int)) : 0 ≤ x ∧ x < y := by
  induction h with
  | one h => exact Fam_pp l hf _ _ hy h
  | more h k ih =>
    have h1 := ih hy
    have h2 := Fam_pp l hf _ _ (by omega) h
    omega
theorem Anc_by (l : List Kn) (x z : Int) : Anc l x z ↔ ∃ p, p ∈ pp l z ∧ (x = p ∨ Anc l x p) := by
  constructor
  · intro h
    induction h with
    | one h => exact ⟨_, h, .inl rfl⟩
    | more h k ih =>
      obtain ⟨p, hp, h1⟩ := ih
      refine ⟨p, hp, .inr ?_⟩
      rcases h1 with rfl | h1
      · exact .one h
      · exact .more h h1
  · rintro ⟨p, hp, rfl | h⟩
    · exact .one hp
    · induction h with
      | one h => exact .more h (.one hp)
      | more h k ih => exact .more h (ih hp)
theorem Anc_up (l : List Kn) (x z : Int) : Anc l x z ↔ ∃ y, (y = z ∨ Anc l y z) ∧ x ∈ pp l y := by
  constructor
  · intro h
    cases h with
    | one h => exact ⟨_, .inl rfl, h⟩
    | more h k => exact ⟨_, .inr k, h⟩
  · rintro ⟨y, rfl | h, hx⟩
    · exact .one hx
    · exact .more hx h
noncomputable def ancs (l : List Kn) (i : Int) : List Int := upTo l.length fun j => Anc l j i
end Go.Proofs.YtllihaahppelhaaGreat.Pr
namespace Go.Proofs.YtllihaahppelhaaGreat.Pr
open Go.RowKit Go.Proofs.YtllihaahppelhaaGreat.P Go.Proofs.YtllihaahppelhaaGreatW.PrintWords Go.Proofs.YtllihaahppelhaaGreat.E
theorem rdB (l : List Bool) (i : Nat) (h : i < l.length) : rdOf false l (i : Int) = l[i] := by simp [rdOf, List.getD_eq_getElem?_getD, List.getElem?_eq_getElem h]
theorem rdB_set_same (out : List Bool) (k : Int) (v : Bool) (h : 0 ≤ k ∧ k < (out.length : Int)) : rdOf false (out.set k.toNat v) k = v := by
  unfold rdOf
  rw [List.getD_eq_getElem?_getD, List.getElem?_set_self (by omega)]
  rfl
theorem rdB_set_ne (out : List Bool) (k x : Int) (v : Bool) (h : 0 ≤ k ∧ 0 ≤ x ∧ x ≠ k) : rdOf false (out.set k.toNat v) x = rdOf false out x := by
  unfold rdOf
  rw [List.getD_eq_getElem?_getD, List.getElem?_set_ne (by omega), List.getD_eq_getElem?_getD]
def setAll (out : List Bool) (L : List Int) : List Bool := L.foldl (fun o p => o.set p.toNat true) out
theorem setAll_len (L : List Int) : ∀ out, (setAll out L).length = out.length := by
  induction L with
  | nil => intro out; rfl
  | cons p L ih => intro out; rw [setAll, List.foldl_cons]; exact (ih _).trans (List.length_set ..)
theorem setAll_at (L : List Int) : ∀ (out : List Bool) (x : Int), (∀ p ∈ L, 0 ≤ p ∧ p < (out.length : Int)) → 0 ≤ x → (rdOf false (setAll out L) x = true ↔ rdOf false out x = true ∨ x ∈ L) := by
  induction L with
  | nil => intro out x _ _; simp [setAll]
  | cons p L ih =>
    intro out x hL hx
    have hp := hL p (List.mem_cons_self ..)
    rw [setAll, List.foldl_cons]
    refine (ih (out.set p.toNat true) x (fun q hq => by rw [List.length_set]; exact hL q (List.mem_cons_of_mem _ hq)) hx).trans ?_
    rw [List.mem_cons]
    by_cases e : x = p
    · subst e
      rw [rdB_set_same _ _ _ hp]
      simp
    · rw [rdB_set_ne _ _ _ _ ⟨hp.1, hx, e⟩]
      simp [e]
/-- The table. -/
noncomputable def above (l : List Kn) (who : Int) : List Bool := (List.range l.length).map fun i : Nat => dec (Anc l (i : Int) who)
theorem above_len (l : List Kn) (who : Int) : (above l who).length = l.length := by simp [above]
theorem above_at (l : List Kn) (who x : Int) (h : 0 ≤ x ∧ x < (l.length : Int)) : rdOf false (above l who) x = dec (Anc l x who) := by
  obtain ⟨m, rfl⟩ := Int.eq_ofNat_of_zero_le h.1
  rw [rdB _ m (by rw [above_len]; omega)]
  simp [above]
/-- Those above x have been gone through. -/
def AbInv (l : List Kn) (who : Int) (out : List Bool) (x : Int) : Prop := out.length = l.length ∧ ∀ p, 0 ≤ p → p < (l.length : Int) → (rdOf false out p = true ↔ ∃ y, x < y ∧ (y = who ∨ Anc l y who) ∧ p ∈ pp l y)
theorem AbInv_end (l : List Kn) (hf : Fam l) (who : Int) (hw : 0 ≤ who ∧ who < (l.length : Int)) (out : List Bool) (h : AbInv l who out (-1)) : out = above l who := by
  apply List.ext_getElem
  · rw [h.1, above_len]
  · intro i h1 h2
    have hi : i < l.length := by rw [h.1] at h1; exact h1
    have h3 := h.2 (i : Int) (by omega) (by omega)
    rw [rdB _ i h1] at h3
    rw [show (above l who)[i] = dec (Anc l (i : Int) who) by simp [above], Bool.eq_iff_iff, h3, dec_iff]
    constructor
    · rintro ⟨y, _, h5, h6⟩; exact (Anc_up l _ _).2 ⟨y, h5, h6⟩
    · intro h4
      obtain ⟨y, h5, h6⟩ := (Anc_up l _ _).1 h4
      refine ⟨y, ?_, h5, h6⟩
      rcases h5 with rfl | h5
      · omega
      · have := Anc_lt l hf _ _ h5 hw; omega
theorem faAbove_l1 (l : List Kn) (who x : Int) (r : List Bool) (L : List Int) (hL : L.length ≤ 1000) (n : Nat) : ∀ (j : Nat) (out : List Bool), j ≤ L.length → L.length - j ≤ n → (∀ p ∈ L, 0 ≤ p ∧ p < (out.length : Int)) →
    Ev (fun k => spec_faAbove.l0 k l who (setAll out (L.drop j)) (wrap64 (x - 1))) r → Ev (fun k => spec_faAbove.l1 k l who out x L (L.length : Int) (j : Int)) r := by
  have stop : ∀ out : List Bool, Ev (fun k => spec_faAbove.l0 k l who (setAll out (L.drop L.length)) (wrap64 (x - 1))) r → Ev (fun k => spec_faAbove.l1 k l who out x L (L.length : Int) (L.length : Int)) r := by
    intro out hr
    refine Ev.step (f := fun k => _) (fun k => by rw [spec_faAbove.l1]) (ifn (by omega) ?_)
    rw [List.drop_length] at hr
    exact hr
  induction n with
  | zero =>
    intro j out h1 h2 _ hr
    obtain rfl : j = L.length := by omega
    exact stop out hr
  | succ n ih =>
    intro j out h1 h2 hv hr
    by_cases hj : j < L.length
    · have hp := hv L[j] (List.getElem_mem hj)
      refine Ev.step (f := fun k => _) (fun k => by rw [spec_faAbove.l1]) (ifp (by omega) (ifp (by omega) (ifp (by omega) ?_)))
      rw [rdI L j hj, w64 _ (by omega)]
      refine ifp hp.1 (ifp hp.2 (ih (j + 1) _ (by omega) (by omega) (fun p hq => by rw [List.length_set]; exact hv p hq) ?_))
      rw [List.drop_eq_getElem_cons hj] at hr
      exact hr
    · obtain rfl : j = L.length := by omega
      exact stop out hr
theorem faAbove_l (l : List Kn) (hf : Fam l) (who : Int) (hw : 0 ≤ who ∧ who < (l.length : Int)) (n : Nat) : ∀ (x : Int) (out : List Bool), -1 ≤ x → x ≤ who → x + 1 ≤ (n : Int) → AbInv l who out x → Ev (fun k => spec_faAbove.l0 k l who out x) (above l who) := by
  have h14 := hf.1.2
  have stop : ∀ out : List Bool, AbInv l who out (-1) → Ev (fun k => spec_faAbove.l0 k l who out (-1)) (above l who) := by
    intro out h
    refine Ev.step (f := fun k => _) (fun k => by rw [spec_faAbove.l0]) (ifn (by omega) (evEq now (AbInv_end l hf who hw out h)))
  induction n with
  | zero =>
    intro x out h1 h2 h3 h
    obtain rfl : x = -1 := by omega
    exact stop out h
  | succ n ih =>
    intro x out h1 h2 h3 h
    by_cases hx : 0 ≤ x
    · have hxl : x < (l.length : Int) := by omega
      have yes : (x = who ∨ Anc l x who) → Ev (fun k => spec_faAbove.j1 k l who out x true) (above l who) := by
        intro hy
        refine Ev.step (f := fun k => _) (fun k => by rw [spec_faAbove.j1]) (ifp rfl (Ev.bind (faParentsI l x ⟨hx, hxl⟩) ?_))
        have hv : ∀ p ∈ pp l x, 0 ≤ p ∧ p < (out.length : Int) := fun p hp => by
          have := Fam_pp l hf x p ⟨hx, hxl⟩ hp
          rw [h.1]; omega
        refine faAbove_l1 l who x _ (pp l x) (Nat.le_trans (ps_len _) (by decide)) _ 0 out (by omega) (Nat.le_refl _) hv ?_
        rw [w64 _ (by omega), List.drop_zero]
        refine ih (x - 1) _ (by omega) (by omega) (by omega) ⟨by rw [setAll_len]; exact h.1, fun p h0 hl => ?_⟩
        rw [setAll_at _ out p hv h0, h.2 p h0 hl]
        constructor
        · rintro (⟨y, h5, h6⟩ | h5)
          · exact ⟨y, by omega, h6⟩
          · exact ⟨x, by omega, hy, h5⟩
        · rintro ⟨y, h5, h6, h7⟩
          by_cases e : y = x
          · subst e; exact .inr h7
          · exact .inl ⟨y, by omega, h6, h7⟩
      refine Ev.step (f := fun k => _) (fun k => by rw [spec_faAbove.l0]) (ifp hx ?_)
      by_cases e : x = who
      · exact ifp e (yes (.inl e))
      · refine ifn e (ifp hx (ifp (by rw [h.1]; exact hxl) ?_))
        have h4 := h.2 x hx hxl
        cases hb : rdOf false out x with
        | true =>
          rw [hb] at h4
          obtain ⟨y, _, h5, h6⟩ := h4.1 rfl
          exact yes (.inr ((Anc_up l _ _).2 ⟨y, h5, h6⟩))
        | false =>
          refine Ev.step (f := fun k => _) (fun k => by rw [spec_faAbove.j1]) (ifn (by simp) ?_)
          rw [w64 _ (by omega)]
          refine ih (x - 1) out (by omega) (by omega) (by omega) ⟨h.1, fun p h0 hl => (h.2 p h0 hl).trans ⟨?_, ?_⟩⟩
          · rintro ⟨y, h5, h6⟩; exact ⟨y, by omega, h6⟩
          · rintro ⟨y, h5, h6, h7⟩
            by_cases e2 : y = x
            · subst e2
              rcases h6 with h6 | h6
              · exact absurd h6 e
              · obtain ⟨z, h8, h9⟩ := (Anc_up l _ _).1 h6
                have hz : 0 ≤ z ∧ z < (l.length : Int) := by
                  rcases h8 with rfl | h8
                  · exact hw
                  · have := Anc_lt l hf _ _ h8 hw; omega
                have := Fam_pp l hf z _ hz h9
                rw [hb] at h4
                exact absurd (h4.2 ⟨z, by omega, h8, h9⟩) (by simp)
            · exact ⟨y, by omega, h6, h7⟩
    · obtain rfl : x = -1 := by omega
      exact stop out h
theorem faAbove (l : List Kn) (hf : Fam l) (who : Int) (hw : 0 ≤ who ∧ who < (l.length : Int)) : Ev (fun k => spec_faAbove.f k l who) (above l who) := by
  have h14 := hf.1.2
  unfold spec_faAbove.f
  refine ifp (by omega) (ifp (by omega) ?_)
  refine faAbove_l l hf who hw (who.toNat + 1) who _ (by omega) (Int.le_refl _) (by omega) ⟨by simp, fun p h0 hl => ?_⟩
  have e : rdOf false (List.replicate ((l.length : Int) : Int).toNat false) p = false := by
    unfold rdOf
    rw [List.getD_eq_getElem?_getD, List.getElem?_replicate]
    split <;> rfl
  rw [e]
  constructor
  · intro h; cases h
  · rintro ⟨y, h5, h6, _⟩
    rcases h6 with rfl | h6
    · omega
    · have := Anc_lt l hf _ _ h6 hw; omega
/-- The list out of a table. -/
def listOf (B : List Bool) (n : Nat) : List Int := ((List.range n).filter fun i : Nat => rdOf false B (i : Int)).map fun i : Nat => (i : Int)
theorem listOf_len (B : List Bool) (n : Nat) : (listOf B n).length ≤ n := by
  unfold listOf
  rw [List.length_map]
  exact Nat.le_trans (List.length_filter_le _ _) (by simp)
theorem faList_l (B : List Bool) (hl : B.length ≤ 1073741824) (n : Nat) : ∀ i : Nat, i ≤ B.length → B.length - i ≤ n → Ev (fun k => spec_faList.l0 k (listOf B i) B (B.length : Int) (i : Int)) (listOf B B.length) := by
  have stop : Ev (fun k => spec_faList.l0 k (listOf B B.length) B (B.length : Int) (B.length : Int)) (listOf B B.length) :=
    Ev.step (f := fun k => _) (fun k => by rw [spec_faList.l0]) (ifn (by omega) now)
  induction n with
  | zero =>
    intro i h1 h2
    obtain rfl : i = B.length := by omega
    exact stop
  | succ n ih =>
    intro i h1 h2
    by_cases hi : i < B.length
    · have hk := listOf_len B i
      have hn := ih (i + 1) (by omega) (by omega)
      refine Ev.step (f := fun k => _) (fun k => by rw [spec_faList.l0]) (ifp (by omega) (ifp (by omega) (ifp (by omega) ?_)))
      rw [w64 _ (by omega)]
      cases h : rdOf false B (i : Int) with
      | true =>
        refine ifp rfl (ifp (by omega) ?_)
        rw [show listOf B (i + 1) = listOf B i ++ [(i : Int)] by simp [listOf, List.range_succ, h]] at hn
        exact hn
      | false =>
        refine ifn (by simp) ?_
        rw [show listOf B (i + 1) = listOf B i by simp [listOf, List.range_succ, h]] at hn
        exact hn
    · obtain rfl : i = B.length := by omega
      exact stop
theorem faList (B : List Bool) (hl : B.length ≤ 1073741824) : Ev (fun k => spec_faList.f k B) (listOf B B.length) := faList_l B hl _ 0 (by omega) (Nat.le_refl _)
end Go.Proofs.YtllihaahppelhaaGreat.Pr
namespace Go.Proofs.YtllihaahppelhaaGreat.Pr
open Go.RowKit Go.Proofs.YtllihaahppelhaaGreat.P Go.Proofs.YtllihaahppelhaaGreatW.PrintWords Go.Proofs.YtllihaahppelhaaGreat.E
theorem distinct_f (L : List Int) (h : L.length ≤ 1073741824) : impl_distinct.f L = some (dist L) := by
  unfold impl_distinct.f
  rw [if_pos (by omega)]
  rfl
theorem ancs_len (l : List Kn) (i : Int) : (ancs l i).length ≤ l.length := upTo_len _ _
theorem ancestors_l (l : List Kn) (hf : Fam l) (i : Int) (ih : ∀ p : Int, 0 ≤ p ∧ p < i → Ev (fun k => impl_ancestors.f k l p) (ancs l p)) (L : List Int) (hL : L.length ≤ 1000) (hv : ∀ p ∈ L, 0 ≤ p ∧ p < i)
    (n : Nat) : ∀ (j : Nat) (acc : List Int), j ≤ L.length → L.length - j ≤ n → acc.length ≤ 15 * j → Ev (fun k => impl_ancestors.l0 k l acc L (L.length : Int) (j : Int)) (dist (acc ++ (L.drop j).flatMap fun p => p :: ancs l p)) := by
  have h14 := hf.1.2
  have stop : ∀ acc : List Int, acc.length ≤ 15 * L.length → Ev (fun k => impl_ancestors.l0 k l acc L (L.length : Int) (L.length : Int)) (dist (acc ++ (L.drop L.length).flatMap fun p => p :: ancs l p)) := by
    intro acc ha
    refine Ev.step (f := fun k => _) (fun k => by rw [impl_ancestors.l0]) (ifn (by omega) (call (distinct_f acc (by omega)) (evEq now ?_)))
    simp
  induction n with
  | zero =>
    intro j acc h1 h2 ha
    obtain rfl : j = L.length := by omega
    exact stop acc ha
  | succ n ih2 =>
    intro j acc h1 h2 ha
    by_cases hj : j < L.length
    · have hp := hv L[j] (List.getElem_mem hj)
      have hal := ancs_len l L[j]
      refine Ev.step (f := fun k => _) (fun k => by rw [impl_ancestors.l0]) (ifp (by omega) (ifp (by omega) (ifp (by omega) (ifp (by omega) ?_))))
      rw [rdI L j hj, w64 _ (by omega)]
      refine call (b := acc ++ [L[j]]) rfl (Ev.bind (ih L[j] hp) (ifp (by rw [List.length_append, List.length_singleton]; omega) (evEq (ih2 (j + 1) _ (by omega) (by omega) (by rw [List.length_append, List.length_append, List.length_singleton]; omega)) ?_)))
      rw [List.drop_eq_getElem_cons hj, List.flatMap_cons]
      simp
    · obtain rfl : j = L.length := by omega
      exact stop acc ha
theorem ancestors_n (l : List Kn) (hf : Fam l) (n : Nat) : ∀ i : Int, 0 ≤ i → i < (n : Int) → i < (l.length : Int) → Ev (fun k => impl_ancestors.f k l i) (ancs l i) := by
  induction n with
  | zero => intro i h0 h; omega
  | succ n ih =>
    intro i h0 h hi
    refine Ev.step (f := fun k => _) (fun k => by rw [impl_ancestors.f]) (ifp h0 (ifp hi ?_))
    refine call (parents_f (rdK l i)) ?_
    have h1 := ancestors_l l hf i (fun p hp => ih p hp.1 (by omega) (by omega)) (pp l i) (Nat.le_trans (ps_len _) (by decide)) (fun p hp => Fam_pp l hf i p ⟨h0, hi⟩ hp) _ 0 [] (by omega) (Nat.le_refl _) (by simp)
    refine evEq h1 ?_
    rw [List.nil_append, List.drop_zero]
    refine upTo_eq _ _ _ (dist_inc _) (fun x => ?_)
    rw [dist_mem, List.mem_flatMap]
    constructor
    · rintro ⟨p, hp, hx⟩
      have h2 := Fam_pp l hf i p ⟨h0, hi⟩ hp
      rcases List.mem_cons.1 hx with rfl | hx
      · exact ⟨by omega, (Anc_by l _ _).2 ⟨_, hp, .inl rfl⟩⟩
      · obtain ⟨h3, h4⟩ := (upTo_mem _ _ _).1 hx
        exact ⟨h3, (Anc_by l _ _).2 ⟨p, hp, .inr h4⟩⟩
    · rintro ⟨h2, h3⟩
      obtain ⟨p, hp, hx⟩ := (Anc_by l _ _).1 h3
      refine ⟨p, hp, ?_⟩
      rcases hx with rfl | hx
      · exact List.mem_cons_self ..
      · exact List.mem_cons_of_mem _ ((upTo_mem _ _ _).2 ⟨h2, hx⟩)
theorem ancestors (l : List Kn) (hf : Fam l) (i : Int) (h : 0 ≤ i ∧ i < (l.length : Int)) : Ev (fun k => impl_ancestors.f k l i) (ancs l i) := ancestors_n l hf (i.toNat + 1) i h.1 (by omega) h.2
end Go.Proofs.YtllihaahppelhaaGreat.Pr
namespace Go.Proofs.YtllihaahppelhaaGreat.Pr
open Go.RowKit Go.Proofs.YtllihaahppelhaaGreat.P Go.Proofs.YtllihaahppelhaaGreatW.PrintWords Go.Proofs.YtllihaahppelhaaGreat.E
/-- All who are ancestors of both. -/
noncomputable def comms (l : List Kn) (a b : Int) : List Int := upTo l.length fun j => Anc l j a ∧ Anc l j b
theorem comms_len (l : List Kn) (a b : Int) : (comms l a b).length ≤ l.length := upTo_len _ _
theorem commonAncestors (l : List Kn) (hf : Fam l) (a b : Int) (ha : 0 ≤ a ∧ a < (l.length : Int)) (hb : 0 ≤ b ∧ b < (l.length : Int)) : Ev (fun k => impl_commonAncestors.f k l a b) (comms l a b) := by
  have h14 := hf.1.2
  have hal := ancs_len l a
  unfold impl_commonAncestors.f
  refine Ev.bind (ancestors l hf a ha) (Ev.bind (ancestors l hf b hb) (call (b := (ancs l a).filter fun x => (ancs l b).contains x) ?_ (evEq now ?_)))
  · unfold impl_common.f
    rw [if_pos (by omega)]
  · refine upTo_eq _ _ _ ((upTo_inc _ _).filter _) (fun x => ?_)
    rw [List.mem_filter, List.contains_iff_mem]
    show x ∈ upTo _ _ ∧ x ∈ upTo _ _ ↔ _
    rw [upTo_mem, upTo_mem]
    exact ⟨fun h => ⟨h.1.1, h.1.2, h.2.2⟩, fun h => ⟨⟨h.1, h.2.1⟩, h.1, h.2.2⟩⟩
/-- The first i places of both tables are told together. -/
def both (A B : List Bool) (i : Nat) : List Bool := (List.range A.length).map fun j : Nat => if j < i then rdOf false A (j : Int) && rdOf false B (j : Int) else rdOf false A (j : Int)
theorem both_len (A B : List Bool) (i : Nat) : (both A B i).length = A.length := by simp [both]
theorem both_at (A B : List Bool) (i j : Nat) (h : j < A.length) : rdOf false (both A B i) (j : Int) = if j < i then rdOf false A (j : Int) && rdOf false B (j : Int) else rdOf false A (j : Int) := by
  rw [rdB _ j (by rw [both_len]; exact h)]
  simp [both]
theorem both_set (A B : List Bool) (i : Nat) (_h : i < A.length) (v : Bool) (hv : v = (rdOf false A (i : Int) && rdOf false B (i : Int))) : (both A B i).set i v = both A B (i + 1) := by
  apply List.ext_getElem
  · rw [List.length_set, both_len, both_len]
  · intro j h1 h2
    rw [both_len] at h2
    rw [List.getElem_set]
    simp only [both, List.getElem_map, List.getElem_range]
    by_cases e : i = j
    · subst e
      rw [if_pos rfl, if_pos (by omega), hv]
    · rw [if_neg e]
      by_cases h3 : j < i
      · rw [if_pos h3, if_pos (by omega)]
      · rw [if_neg h3, if_neg (by omega)]
theorem faCommon_l (A B : List Bool) (hAB : A.length = B.length) (hl : A.length ≤ 1073741824) (n : Nat) : ∀ i : Nat, i ≤ A.length → A.length - i ≤ n → Ev (fun k => spec_faCommon.l0 k (both A B i) B (A.length : Int) (i : Int)) (listOf (both A B A.length) A.length) := by
  have stop : Ev (fun k => spec_faCommon.l0 k (both A B A.length) B (A.length : Int) (A.length : Int)) (listOf (both A B A.length) A.length) := by
    have h := faList (both A B A.length) (by rw [both_len]; exact hl)
    rw [both_len] at h
    exact Ev.step (f := fun k => _) (fun k => by rw [spec_faCommon.l0]) (ifn (by omega) (Ev.bind h now))
  induction n with
  | zero =>
    intro i h1 h2
    obtain rfl : i = A.length := by omega
    exact stop
  | succ n ih =>
    intro i h1 h2
    by_cases hi : i < A.length
    · have hn := ih (i + 1) (by omega) (by omega)
      refine Ev.step (f := fun k => _) (fun k => by rw [spec_faCommon.l0]) (ifp (by omega) (ifp (by omega) (ifp (by rw [both_len]; omega) ?_)))
      rw [both_at A B i i hi, if_neg (by omega), w64 _ (by omega), Int.toNat_natCast]
      cases h : rdOf false A (i : Int) with
      | true =>
        refine ifp rfl (ifp (by omega) ?_)
        rw [both_set A B i hi _ (by rw [h]; rfl)]
        exact hn
      | false =>
        refine ifn (by simp) ?_
        rw [both_set A B i hi _ (by rw [h]; rfl)]
        exact hn
    · obtain rfl : i = A.length := by omega
      exact stop
theorem faCommon (l : List Kn) (hf : Fam l) (a b : Int) (ha : 0 ≤ a ∧ a < (l.length : Int)) (hb : 0 ≤ b ∧ b < (l.length : Int)) : Ev (fun k => spec_faCommon.f k l a b) (comms l a b) := by
  have h14 := hf.1.2
  unfold spec_faCommon.f
  refine Ev.bind (faAbove l hf a ha) (Ev.bind (faAbove l hf b hb) ?_)
  have h := faCommon_l (above l a) (above l b) (by rw [above_len, above_len]) (by rw [above_len]; omega) _ 0 (by omega) (Nat.le_refl _)
  have e0 : both (above l a) (above l b) 0 = above l a := by
    apply List.ext_getElem
    · exact both_len _ _ _
    · intro j h1 h2
      simp only [both, List.getElem_map, List.getElem_range, Nat.not_lt_zero, if_false]
      exact rdB _ j h2
  rw [e0] at h
  refine evEq h ?_
  rw [above_len]
  unfold listOf comms upTo
  congr 1
  refine List.filter_congr (fun i hi => ?_)
  have hi := List.mem_range.1 hi
  rw [both_at _ _ _ i (by rw [above_len]; exact hi), if_pos hi, above_at l a _ ⟨by omega, by omega⟩, above_at l b _ ⟨by omega, by omega⟩, Bool.eq_iff_iff, Bool.and_eq_true, dec_iff, dec_iff, dec_iff]
end Go.Proofs.YtllihaahppelhaaGreat.Pr
namespace Go.Proofs.YtllihaahppelhaaGreat.Pr
open Go.RowKit Go.Proofs.YtllihaahppelhaaGreat.P Go.Proofs.YtllihaahppelhaaGreatW.PrintWords Go.Proofs.YtllihaahppelhaaGreat.E
theorem allIn1 (l : List Kn) (a : Int) : (good l && ([a] : List Int).all (inR l)) = (good l && inR l a) := by simp
theorem allIn2 (l : List Kn) (a b : Int) : (good l && ([a, b] : List Int).all (inR l)) = (good l && (inR l a && inR l b)) := by simp
theorem one_iff (l : List Kn) (a : Int) : (good l && inR l a) = true ↔ Fam l ∧ 0 ≤ a ∧ a < (l.length : Int) := by rw [Bool.and_eq_true, good_iff, inR_iff]
theorem two_iff (l : List Kn) (a b : Int) : (good l && (inR l a && inR l b)) = true ↔ Fam l ∧ (0 ≤ a ∧ a < (l.length : Int)) ∧ 0 ≤ b ∧ b < (l.length : Int) := by rw [Bool.and_eq_true, Bool.and_eq_true, good_iff, inR_iff, inR_iff]
end Go.Proofs.YtllihaahppelhaaGreat.Pr
namespace Go.Proofs.YtllihaahppelhaaGreat.Pr
open Go.RowKit Go.Proofs.YtllihaahppelhaaGreat.P Go.Proofs.YtllihaahppelhaaGreatW.PrintWords Go.Proofs.YtllihaahppelhaaGreat.E
/-- Which of the tests of a relation is the first that holds. -/
noncomputable def relNo (l : List Kn) (a b : Int) : Nat :=
  if a = b then 0 else if (pp l b).contains a = true then 1 else if (pp l a).contains b = true then 2 else if sib l a b = true then 3 else if grand l a b = true then 4 else if grand l b a = true then 5 else
  if aunt l a b = true then 6 else if aunt l b a = true then 7 else if cous l a b = true then 8 else if dec (Anc l a b) = true then 9 else if dec (Anc l b a) = true then 10 else if ((comms l a b).length : Int) > 0 then 11 else 12
def relText : Nat → ByteArray
  | 0 => ⟨#[115, 101, 108, 102]⟩
  | 1 => ⟨#[112, 97, 114, 101, 110, 116]⟩
  | 2 => ⟨#[99, 104, 105, 108, 100]⟩
  | 3 => ⟨#[115, 105, 98, 108, 105, 110, 103]⟩
  | 4 => ⟨#[103, 114, 97, 110, 100, 112, 97, 114, 101, 110, 116]⟩
  | 5 => ⟨#[103, 114, 97, 110, 100, 99, 104, 105, 108, 100]⟩
  | 6 => ⟨#[97, 117, 110, 116]⟩
  | 7 => ⟨#[110, 105, 101, 99, 101]⟩
  | 8 => ⟨#[99, 111, 117, 115, 105, 110]⟩
  | 9 => ⟨#[97, 110, 99, 101, 115, 116, 111, 114]⟩
  | 10 => ⟨#[100, 101, 115, 99, 101, 110, 100, 97, 110, 116]⟩
  | 11 => ⟨#[107, 105, 110]⟩
  | _ => ⟨#[110, 111, 110, 101]⟩
noncomputable def vRel (l : List Kn) (a b : Int) : ByteArray × Bool := if (good l && (inR l a && inR l b)) = true then (relText (relNo l a b), true) else (⟨#[]⟩, false)
theorem faRelation (l : List Kn) (hf : Fam l) (a b : Int) (ha : 0 ≤ a ∧ a < (l.length : Int)) (hb : 0 ≤ b ∧ b < (l.length : Int)) : Ev (fun k => spec_faRelation.f k l a b) (relText (relNo l a b)) := by
  unfold spec_faRelation.f relNo
  by_cases h0 : a = b
  · rw [if_pos h0]; exact ifp h0 now
  rw [if_neg h0]; refine ifn h0 (Ev.bind (faParentsI l b hb) (Ev.bind (faParent l a b) ?_))
  by_cases h1 : (pp l b).contains a = true
  · rw [if_pos h1]; exact ifp h1 now
  rw [if_neg h1]; refine ifn h1 (Ev.bind (faParentsI l a ha) (Ev.bind (faParent l b a) ?_))
  by_cases h2 : (pp l a).contains b = true
  · rw [if_pos h2]; exact ifp h2 now
  rw [if_neg h2]; refine ifn h2 (Ev.bind (faSiblings l a b ha hb) ?_)
  by_cases h3 : sib l a b = true
  · rw [if_pos h3]; exact ifp h3 now
  rw [if_neg h3]; refine ifn h3 (Ev.bind (faGrand l hf a b hb) ?_)
  by_cases h4 : grand l a b = true
  · rw [if_pos h4]; exact ifp h4 now
  rw [if_neg h4]; refine ifn h4 (Ev.bind (faGrand l hf b a ha) ?_)
  by_cases h5 : grand l b a = true
  · rw [if_pos h5]; exact ifp h5 now
  rw [if_neg h5]; refine ifn h5 (Ev.bind (faAunt l hf a b ha hb) ?_)
  by_cases h6 : aunt l a b = true
  · rw [if_pos h6]; exact ifp h6 now
  rw [if_neg h6]; refine ifn h6 (Ev.bind (faAunt l hf b a hb ha) ?_)
  by_cases h7 : aunt l b a = true
  · rw [if_pos h7]; exact ifp h7 now
  rw [if_neg h7]; refine ifn h7 (Ev.bind (faCousins l hf a b ha hb) ?_)
  by_cases h8 : cous l a b = true
  · rw [if_pos h8]; exact ifp h8 now
  rw [if_neg h8]; refine ifn h8 (Ev.bind (faAbove l hf b hb) (ifp ha.1 (ifp (by rw [above_len]; exact ha.2) ?_)))
  rw [above_at l b a ha]
  by_cases h9 : dec (Anc l a b) = true
  · rw [if_pos h9]; exact ifp h9 now
  rw [if_neg h9]; refine ifn h9 (Ev.bind (faAbove l hf a ha) (ifp hb.1 (ifp (by rw [above_len]; exact hb.2) ?_)))
  rw [above_at l a b hb]
  by_cases h10 : dec (Anc l b a) = true
  · rw [if_pos h10]; exact ifp h10 now
  rw [if_neg h10]; refine ifn h10 (Ev.bind (faCommon l hf a b ha hb) ?_)
  by_cases h11 : ((comms l a b).length : Int) > 0
  · exact evEq (ifp h11 now) (by rw [if_pos h11]; rfl)
  exact evEq (ifn h11 now) (by rw [if_neg h11]; rfl)
theorem spec_Rel (l : List Kn) (hl : l.length ≤ 1073741824) (a b : Int) : Ev (fun k => spec_RelationOf.f k l a b) (vRel l a b) := by
  unfold spec_RelationOf.f vRel
  refine Ev.bind (faTwo l hl a b) ?_
  by_cases h : (good l && (inR l a && inR l b)) = true
  · obtain ⟨hf, ha, hb⟩ := (two_iff l a b).1 h
    rw [h]
    exact ifp rfl (Ev.bind (faRelation l hf a b ha hb) now)
  · rw [if_neg h]
    exact ifn h now
theorem ancs_hasD (l : List Kn) (i a : Int) (ha : 0 ≤ a ∧ a < (l.length : Int)) : (ancs l i).contains a = dec (Anc l a i) := by
  rw [Bool.eq_iff_iff, List.contains_iff_mem, dec_iff]
  exact (upTo_mem _ _ _).trans ⟨fun h => h.2, fun h => ⟨ha, h⟩⟩
theorem txt_rel (l : List Kn) (a b : Int) : impl_RelationOf.txt (a == b) ((pp l b).contains a) ((pp l a).contains b) (sib l a b) (grand l a b) (grand l b a) (aunt l a b) (aunt l b a) (cous l a b) (dec (Anc l a b)) (dec (Anc l b a)) (decide (0 < (comms l a b).length)) = relText (relNo l a b) := by
  unfold impl_RelationOf.txt relNo
  by_cases h0 : a = b
  · rw [if_pos h0, if_pos (beq_iff_eq.2 h0)]; rfl
  rw [if_neg h0, if_neg (by simpa using h0)]
  by_cases h1 : (pp l b).contains a = true
  · rw [if_pos h1, if_pos h1]; rfl
  rw [if_neg h1, if_neg h1]
  by_cases h2 : (pp l a).contains b = true
  · rw [if_pos h2, if_pos h2]; rfl
  rw [if_neg h2, if_neg h2]
  by_cases h3 : sib l a b = true
  · rw [if_pos h3, if_pos h3]; rfl
  rw [if_neg h3, if_neg h3]
  by_cases h4 : grand l a b = true
  · rw [if_pos h4, if_pos h4]; rfl
  rw [if_neg h4, if_neg h4]
  by_cases h5 : grand l b a = true
  · rw [if_pos h5, if_pos h5]; rfl
  rw [if_neg h5, if_neg h5]
  by_cases h6 : aunt l a b = true
  · rw [if_pos h6, if_pos h6]; rfl
  rw [if_neg h6, if_neg h6]
  by_cases h7 : aunt l b a = true
  · rw [if_pos h7, if_pos h7]; rfl
  rw [if_neg h7, if_neg h7]
  by_cases h8 : cous l a b = true
  · rw [if_pos h8, if_pos h8]; rfl
  rw [if_neg h8, if_neg h8]
  by_cases h9 : dec (Anc l a b) = true
  · rw [if_pos h9, if_pos h9]; rfl
  rw [if_neg h9, if_neg h9]
  by_cases h10 : dec (Anc l b a) = true
  · rw [if_pos h10, if_pos h10]; rfl
  rw [if_neg h10, if_neg h10]
  by_cases h11 : ((comms l a b).length : Int) > 0
  · rw [if_pos h11, if_pos (by rw [decide_eq_true_eq]; omega)]; rfl
  · rw [if_neg h11, if_neg (by rw [decide_eq_true_eq]; omega)]; rfl
theorem impl_Rel (l : List Kn) (hl : l.length ≤ 1073741824) (a b : Int) : Ev (fun k => impl_RelationOf.f k l a b) (vRel l a b) := by
  unfold impl_RelationOf.f vRel
  have hk := hasKin l hl [a, b]
  rw [allIn2] at hk
  refine Ev.bind hk ?_
  by_cases h : (good l && (inR l a && inR l b)) = true
  · obtain ⟨hf, ha, hb⟩ := (two_iff l a b).1 h
    have h14 := hf.1.2
    have la := ancs_len l a
    have lb := ancs_len l b
    rw [h, if_pos rfl]
    refine ifp rfl (Ev.bind (a := relText (relNo l a b)) ?_ now)
    unfold impl_RelationOf.all
    refine Ev.bind (isParent l a b hb) (Ev.bind (isParent l b a ha) (call (areSiblings l a b ha hb) (call (isGrand l hf a b hb) (call (isGrand l hf b a ha) (call (isAunt l hf a b ha hb) (call (isAunt l hf b a hb ha) (call (areCousins l hf a b ha hb) ?_)))))))
    refine Ev.bind (ancestors l hf b hb) (Ev.bind (contains _ (by omega) a) (Ev.bind (ancestors l hf a ha) (Ev.bind (contains _ (by omega) b) (Ev.bind (commonAncestors l hf a b ha hb) (evEq now ?_)))))
    rw [ancs_hasD l b a ha, ancs_hasD l a b hb]
    exact txt_rel l a b
  · rw [if_neg h]
    exact ifn h now
end Go.Proofs.YtllihaahppelhaaGreat.Pr
namespace Go.Proofs.YtllihaahppelhaaGreat.Pr
open Go.RowKit Go.Proofs.YtllihaahppelhaaGreat.P Go.Proofs.YtllihaahppelhaaGreatW.PrintWords Go.Proofs.YtllihaahppelhaaGreat.E
/-- There is a walk of so many steps. -/
inductive Wk (nx : Int → List Int) (s : Int) : Int → Nat → Prop
  | now : Wk nx s s 0
  | on {u v : Int} {m : Nat} (h : Wk nx s u m) (k : v ∈ nx u) : Wk nx s v (m + 1)
/-- d is the least number of steps to x, -1 if there is no walk. -/
def Least (nx : Int → List Int) (s x d : Int) : Prop := (d = -1 ∧ ∀ m, ¬ Wk nx s x m) ∨ ∃ m : Nat, d = m ∧ Wk nx s x m ∧ ∀ k, Wk nx s x k → m ≤ k
theorem Least_one (nx : Int → List Int) (s x d e : Int) (h : Least nx s x d) (k : Least nx s x e) : d = e := by
  rcases h with ⟨h1, h2⟩ | ⟨m, h1, h2, h3⟩
  · rcases k with ⟨k1, k2⟩ | ⟨m', k1, k2, k3⟩
    · omega
    · exact absurd k2 (h2 _)
  · rcases k with ⟨k1, k2⟩ | ⟨m', k1, k2, k3⟩
    · exact absurd h2 (k2 _)
    · have := h3 _ k2
      have := k3 _ h2
      omega
/-- Different numbers below n are at most n. -/
theorem few (n : Nat) : ∀ (qu : List Int), qu.Nodup → (∀ x ∈ qu, 0 ≤ x ∧ x < (n : Int)) → qu.length ≤ n := by
  induction n with
  | zero =>
    intro qu _ h
    cases qu with
    | nil => simp
    | cons x t => have := h x (List.mem_cons_self ..); omega
  | succ n ih =>
    intro qu hd h
    by_cases hm : (n : Int) ∈ qu
    · have h1 := ih (qu.erase (n : Int)) (hd.erase _) (fun x hx => by
        have h2 := (List.Nodup.mem_erase_iff hd).1 hx
        have h3 := h x h2.2
        omega)
      rw [List.length_erase_of_mem hm] at h1
      omega
    · have h1 := ih qu hd (fun x hx => by
        have h3 := h x hx
        have h4 : x ≠ (n : Int) := fun e => hm (e ▸ hx)
        omega)
      omega
theorem rd_set_same (out : List Int) (k v : Int) (h : 0 ≤ k ∧ k < (out.length : Int)) : rd (out.set k.toNat v) k = v := by
  unfold rd
  rw [List.getD_eq_getElem?_getD, List.getElem?_set_self (by omega)]
  rfl
theorem rd_set_ne (out : List Int) (k x v : Int) (h : 0 ≤ k ∧ 0 ≤ x ∧ x ≠ k) : rd (out.set k.toNat v) x = rd out x := by
  unfold rd
  rw [List.getD_eq_getElem?_getD, List.getElem?_set_ne (by omega), List.getD_eq_getElem?_getD]
theorem rd_app (qu : List Int) (x : Int) (j : Nat) (h : j < qu.length) : rd (qu ++ [x]) (j : Int) = rd qu (j : Int) := by
  rw [rdI _ j (by simp; omega), rdI _ j h, List.getElem_append_left h]
theorem rd_mem (qu : List Int) (j : Nat) (h : j < qu.length) : rd qu (j : Int) ∈ qu := by
  rw [rdI _ j h]; exact List.getElem_mem h
/-- What holds of the table and the queue, i of which have been taken. -/
structure Bfs (nx : Int → List Int) (s : Int) (n : Nat) (out qu : List Int) (i : Nat) : Prop where
  len : out.length = n
  qr : ∀ x ∈ qu, 0 ≤ x ∧ x < (n : Int)
  nd : qu.Nodup
  val : ∀ x, 0 ≤ x → x < (n : Int) → (rd out x = -1 ∧ x ∉ qu) ∨ (x ∈ qu ∧ ∃ m : Nat, rd out x = m ∧ Wk nx s x m)
  srt : qu.Pairwise (fun x y => rd out x ≤ rd out y)
  top : i < qu.length → ∀ x ∈ qu, rd out x ≤ rd out (rd qu (i : Int)) + 1
  old : ∀ j, j < i → j < qu.length → ∀ v ∈ nx (rd qu (j : Int)), v ∈ qu ∧ rd out v ≤ rd out (rd qu (j : Int)) + 1
  str : s ∈ qu ∧ rd out s = 0
theorem Bfs.few_ {nx : Int → List Int} {s : Int} {n : Nat} {out qu : List Int} {i : Nat} (h : Bfs nx s n out qu i) : qu.length ≤ n := few n qu h.nd h.qr
theorem Bfs.start (nx : Int → List Int) (s : Int) (n : Nat) (hs : 0 ≤ s ∧ s < (n : Int)) : Bfs nx s n ((List.replicate n (-1)).set s.toNat 0) [s] 0 where
  len := by simp
  qr := fun x hx => by rw [List.mem_singleton.1 hx]; exact hs
  nd := by simp
  val := fun x h0 h1 => by
    by_cases e : x = s
    · subst e
      exact .inr ⟨by simp, 0, by rw [rd_set_same _ _ _ (by simpa using hs)]; rfl, .now⟩
    · refine .inl ⟨?_, by simpa using e⟩
      rw [rd_set_ne _ _ _ _ ⟨hs.1, h0, e⟩, ← Int.toNat_of_nonneg h0, rdI _ _ (by simp; omega)]
      simp
  srt := by simp
  top := fun _ x hx => by
    rw [List.mem_singleton.1 hx]
    show _ ≤ rd _ (rd [s] 0) + 1
    have : rd [s] 0 = s := rfl
    rw [this]; omega
  old := fun j hj => absurd hj (Nat.not_lt_zero _)
  str := ⟨by simp, rd_set_same _ _ _ (by simpa using hs)⟩
/-- A new one. -/
theorem Bfs.push {nx : Int → List Int} {s : Int} {n : Nat} {out qu : List Int} {i : Nat} (h : Bfs nx s n out qu i) (hi : i < qu.length) (k : Int) (hk : 0 ≤ k ∧ k < (n : Int)) (hn : rd out k < 0) (hm : k ∈ nx (rd qu (i : Int))) :
    Bfs nx s n (out.set k.toNat (rd out (rd qu (i : Int)) + 1)) (qu ++ [k]) i := by
  have hq : k ∉ qu := by
    intro hk2
    rcases h.val k hk.1 hk.2 with ⟨_, h2⟩ | ⟨_, m, h2, _⟩
    · exact h2 hk2
    · omega
  have hl : 0 ≤ k ∧ k < (out.length : Int) := by rw [h.len]; exact hk
  have same : ∀ x ∈ qu, rd (out.set k.toNat (rd out (rd qu (i : Int)) + 1)) x = rd out x := fun x hx => rd_set_ne _ _ _ _ ⟨hk.1, (h.qr x hx).1, fun e => hq (e ▸ hx)⟩
  have new : rd (out.set k.toNat (rd out (rd qu (i : Int)) + 1)) k = rd out (rd qu (i : Int)) + 1 := rd_set_same _ _ _ hl
  have hqi := rd_mem qu i hi
  refine ⟨by rw [List.length_set]; exact h.len, ?_, ?_, ?_, ?_, ?_, ?_, ?_⟩
  · intro x hx
    rcases List.mem_append.1 hx with hx | hx
    · exact h.qr x hx
    · rw [List.mem_singleton.1 hx]; exact hk
  · refine List.nodup_append.2 ⟨h.nd, by simp, fun a ha b hb e => ?_⟩
    rw [List.mem_singleton.1 hb] at e
    exact hq (e ▸ ha)
  · intro x h0 h1
    by_cases e : x = k
    · subst e
      refine .inr ⟨by simp, ?_⟩
      rcases h.val _ (h.qr _ hqi).1 (h.qr _ hqi).2 with ⟨_, h2⟩ | ⟨_, m, h2, h3⟩
      · exact absurd hqi h2
      · exact ⟨m + 1, by rw [new, h2]; rfl, .on h3 hm⟩
    · rw [rd_set_ne _ _ _ _ ⟨hk.1, h0, e⟩]
      rcases h.val x h0 h1 with ⟨h2, h3⟩ | ⟨h2, h3⟩
      · refine .inl ⟨h2, fun h4 => ?_⟩
        rcases List.mem_append.1 h4 with h4 | h4
        · exact h3 h4
        · exact e (List.mem_singleton.1 h4)
      · exact .inr ⟨List.mem_append_left _ h2, h3⟩
  · refine List.pairwise_append.2 ⟨?_, by simp, fun a ha b hb => ?_⟩
    · refine h.srt.imp_of_mem (fun {a b} ha hb hab => ?_)
      rw [same a ha, same b hb]; exact hab
    · rw [List.mem_singleton.1 hb, same a ha, new]
      exact h.top hi a ha
  · intro _ x hx
    rw [rd_app qu k i hi, same _ hqi]
    rcases List.mem_append.1 hx with hx | hx
    · rw [same x hx]; exact h.top hi x hx
    · rw [List.mem_singleton.1 hx, new]; omega
  · intro j hj hj2 v hv
    have hj3 : j < qu.length := by omega
    rw [rd_app qu k j hj3] at hv ⊢
    obtain ⟨h2, h3⟩ := h.old j hj hj3 v hv
    rw [same _ (rd_mem qu j hj3), same v h2]
    exact ⟨List.mem_append_left _ h2, h3⟩
  · exact ⟨List.mem_append_left _ h.str.1, by rw [same _ h.str.1]; exact h.str.2⟩
/-- The next one is taken. -/
theorem Bfs.next {nx : Int → List Int} {s : Int} {n : Nat} {out qu : List Int} {i : Nat} (h : Bfs nx s n out qu i) (hi : i < qu.length) (hall : ∀ v ∈ nx (rd qu (i : Int)), v ∈ qu) : Bfs nx s n out qu (i + 1) := by
  refine ⟨h.len, h.qr, h.nd, h.val, h.srt, fun hi2 x hx => ?_, fun j hj hj2 v hv => ?_, h.str⟩
  · have h1 := h.top hi x hx
    have h2 := List.pairwise_iff_getElem.1 h.srt i (i + 1) hi hi2 (by omega)
    rw [← rdI qu i hi, ← rdI qu (i + 1) hi2] at h2
    omega
  · by_cases e : j = i
    · subst e
      exact ⟨hall v hv, h.top hi v (hall v hv)⟩
    · exact h.old j (by omega) hj2 v hv
/-- All have been taken: the table tells the least numbers of steps. -/
theorem Bfs.done {nx : Int → List Int} {s : Int} {n : Nat} {out qu : List Int} {i : Nat} (h : Bfs nx s n out qu i) (hi : qu.length ≤ i) (x : Int) (h0 : 0 ≤ x ∧ x < (n : Int)) : Least nx s x (rd out x) := by
  have key : ∀ v m, Wk nx s v m → v ∈ qu ∧ rd out v ≤ (m : Int) := by
    intro v m hw
    induction hw with
    | now => exact ⟨h.str.1, by rw [h.str.2]; omega⟩
    | on hw hk ih =>
      obtain ⟨h1, h2⟩ := ih
      obtain ⟨j, hj, e⟩ := List.mem_iff_getElem.1 h1
      have e2 : rd qu (j : Int) = _ := (rdI qu j hj).trans e
      have h3 := h.old j (by omega) hj
      rw [e2] at h3
      obtain ⟨h4, h5⟩ := h3 _ hk
      exact ⟨h4, by omega⟩
  rcases h.val x h0.1 h0.2 with ⟨h1, h2⟩ | ⟨h1, m, h2, h3⟩
  · exact .inl ⟨h1, fun m hm => h2 (key x m hm).1⟩
  · refine .inr ⟨m, h2, h3, fun k hk => ?_⟩
    have := (key x k hk).2
    omega
end Go.Proofs.YtllihaahppelhaaGreat.Pr
namespace Go.Proofs.YtllihaahppelhaaGreat.Pr
open Go.RowKit Go.Proofs.YtllihaahppelhaaGreat.P Go.Proofs.YtllihaahppelhaaGreatW.PrintWords Go.Proofs.YtllihaahppelhaaGreat.E
def kid (l : List Kn) (a : Int) (i : Nat) : Bool := (ps (rdK l i)).contains a
def kids (l : List Kn) (a : Int) : List Int := ((List.range l.length).filter (kid l a)).map fun i : Nat => (i : Int)
theorem kids_len (l : List Kn) (a : Int) : (kids l a).length ≤ l.length := by
  unfold kids
  rw [List.length_map]
  exact Nat.le_trans (List.length_filter_le _ _) (by simp)
theorem kids_mem (l : List Kn) (a p : Int) (h : p ∈ kids l a) : 0 ≤ p ∧ p < (l.length : Int) := by
  unfold kids at h
  obtain ⟨i, h1, rfl⟩ := List.mem_map.1 h
  have := List.mem_range.1 (List.mem_filter.1 h1).1
  omega
def kidsTo (l : List Kn) (a : Int) (n : Nat) : List Int := ((List.range n).filter (kid l a)).map fun i : Nat => (i : Int)
theorem kidsTo_len (l : List Kn) (a : Int) (n : Nat) : (kidsTo l a n).length ≤ n := by
  unfold kidsTo
  rw [List.length_map]
  exact Nat.le_trans (List.length_filter_le _ _) (by simp)
theorem kidsTo_yes (l : List Kn) (a : Int) (n : Nat) (h : kid l a n = true) : kidsTo l a (n + 1) = kidsTo l a n ++ [(n : Int)] := by
  simp [kidsTo, List.range_succ, h]
theorem kidsTo_no (l : List Kn) (a : Int) (n : Nat) (h : kid l a n = false) : kidsTo l a (n + 1) = kidsTo l a n := by
  simp [kidsTo, List.range_succ, h]
theorem faChildren_l (l : List Kn) (hl : l.length ≤ 1073741824) (a : Int) (n : Nat) : ∀ i : Nat, i ≤ l.length → l.length - i ≤ n → Ev (fun k => spec_faChildren.l0 k l a (kidsTo l a i) (l.length : Int) (i : Int)) (kids l a) := by
  have stop : Ev (fun k => spec_faChildren.l0 k l a (kidsTo l a l.length) (l.length : Int) (l.length : Int)) (kids l a) := by
    refine Ev.step (f := fun k => _) (fun k => by rw [spec_faChildren.l0]) (ifn (by omega) (evEq now ?_))
    rfl
  induction n with
  | zero =>
    intro i h1 h2
    obtain rfl : i = l.length := by omega
    exact stop
  | succ n ih =>
    intro i h1 h2
    by_cases hi : i < l.length
    · have hk := kidsTo_len l a i
      refine Ev.step (f := fun k => _) (fun k => by rw [spec_faChildren.l0]) (ifp (by omega) ?_)
      refine Ev.bind (faParents l i hi) (Ev.bind (l1Has a _ (Nat.le_trans (ps_len _) (by decide))) ?_)
      rw [w64 _ (by omega)]
      have e : (ps l[i]).contains a = kid l a i := by unfold kid; rw [show rdK l i = l[i] from rdK_get l i hi]
      rw [e]
      cases h : kid l a i with
      | true =>
        refine ifp rfl (ifp (by omega) ?_)
        rw [← kidsTo_yes l a i h]
        exact ih (i + 1) (by omega) (by omega)
      | false =>
        refine ifn (by simp) ?_
        rw [← kidsTo_no l a i h]
        exact ih (i + 1) (by omega) (by omega)
    · obtain rfl : i = l.length := by omega
      exact stop
theorem faChildren (l : List Kn) (hl : l.length ≤ 1073741824) (a : Int) : Ev (fun k => spec_faChildren.f k l a) (kids l a) := faChildren_l l hl a _ 0 (by omega) (Nat.le_refl _)
theorem children_l (l : List Kn) (hl : l.length ≤ 1073741824) (a : Int) (n : Nat) : ∀ i : Nat, i ≤ l.length → l.length - i ≤ n → Ev (fun k => impl_children.l0 k a (kidsTo l a i) l (l.length : Int) (i : Int)) (kids l a) := by
  have stop : Ev (fun k => impl_children.l0 k a (kidsTo l a l.length) l (l.length : Int) (l.length : Int)) (kids l a) := by
    refine Ev.step (f := fun k => _) (fun k => by rw [impl_children.l0]) (ifn (by omega) (evEq now ?_))
    rfl
  induction n with
  | zero =>
    intro i h1 h2
    obtain rfl : i = l.length := by omega
    exact stop
  | succ n ih =>
    intro i h1 h2
    by_cases hi : i < l.length
    · have hk := kidsTo_len l a i
      refine Ev.step (f := fun k => _) (fun k => by rw [impl_children.l0]) (ifp (by omega) (ifp (by omega) (ifp (by omega) ?_)))
      rw [rdK_get l i hi]
      refine call (parents_f l[i]) (Ev.bind (contains _ (Nat.le_trans (ps_len _) (by decide)) a) ?_)
      rw [w64 _ (by omega)]
      have e : (ps l[i]).contains a = kid l a i := by unfold kid; rw [show rdK l i = l[i] from rdK_get l i hi]
      rw [e]
      cases h : kid l a i with
      | true =>
        refine ifp rfl (ifp (by omega) ?_)
        rw [← kidsTo_yes l a i h]
        exact ih (i + 1) (by omega) (by omega)
      | false =>
        refine ifn (by simp) ?_
        rw [← kidsTo_no l a i h]
        exact ih (i + 1) (by omega) (by omega)
    · obtain rfl : i = l.length := by omega
      exact stop
theorem children (l : List Kn) (hl : l.length ≤ 1073741824) (a : Int) : Ev (fun k => impl_children.f k l a) (kids l a) := children_l l hl a _ 0 (by omega) (Nat.le_refl _)
end Go.Proofs.YtllihaahppelhaaGreat.Pr
namespace Go.Proofs.YtllihaahppelhaaGreat.Pr
open Go.RowKit Go.Proofs.YtllihaahppelhaaGreat.P Go.Proofs.YtllihaahppelhaaGreatW.PrintWords Go.Proofs.YtllihaahppelhaaGreat.E
/-- Parents and children. -/
def nbr (l : List Kn) (x : Int) : List Int := pp l x ++ kids l x
theorem nbr_len (l : List Kn) (hf : Fam l) (x : Int) : (nbr l x).length ≤ 16 := by
  have h1 := ps_len (rdK l x)
  have h2 := kids_len l x
  have h3 := hf.1.2
  unfold nbr
  rw [List.length_append]
  show (ps (rdK l x)).length + _ ≤ _
  omega
theorem nbr_in (l : List Kn) (hf : Fam l) (x y : Int) (hx : 0 ≤ x ∧ x < (l.length : Int)) (h : y ∈ nbr l x) : 0 ≤ y ∧ y < (l.length : Int) := by
  rcases List.mem_append.1 h with h | h
  · have := Fam_pp l hf x y hx h; omega
  · exact kids_mem l x y h
/-- Those that are new are seen, and are next. -/
def ad : List Int → List Int × List Int → List Int × List Int
  | [], s => s
  | y :: ys, s => if s.1.contains y = true then ad ys s else ad ys (s.1 ++ [y], s.2 ++ [y])
def adAll (N : Int → List Int) : List Int → List Int × List Int → List Int × List Int
  | [], s => s
  | u :: us, s => adAll N us (ad (N u) s)
theorem ad_prop (ys : List Int) : ∀ s : List Int × List Int, ∃ new, (ad ys s).1 = s.1 ++ new ∧ (ad ys s).2 = s.2 ++ new ∧ new.Nodup ∧ (∀ y ∈ new, y ∈ ys ∧ y ∉ s.1) ∧ ∀ y ∈ ys, y ∈ (ad ys s).1 := by
  induction ys with
  | nil => intro s; exact ⟨[], by simp [ad], by simp [ad], by simp, (fun y hy => by cases hy), (fun y hy => by cases hy)⟩
  | cons y ys ih =>
    intro s
    rw [ad]
    by_cases h : s.1.contains y = true
    · rw [if_pos h]
      obtain ⟨new, h1, h2, h3, h4, h5⟩ := ih s
      refine ⟨new, h1, h2, h3, fun z hz => ⟨List.mem_cons_of_mem _ (h4 z hz).1, (h4 z hz).2⟩, fun z hz => ?_⟩
      rcases List.mem_cons.1 hz with rfl | hz
      · rw [h1]; exact List.mem_append_left _ (List.contains_iff_mem.1 h)
      · exact h5 z hz
    · rw [if_neg h]
      have hy : y ∉ s.1 := fun hm => h (List.contains_iff_mem.2 hm)
      obtain ⟨new, h1, h2, h3, h4, h5⟩ := ih (s.1 ++ [y], s.2 ++ [y])
      refine ⟨y :: new, by rw [h1]; simp, by rw [h2]; simp, List.nodup_cons.2 ⟨fun hm => (h4 y hm).2 (by simp), h3⟩, fun z hz => ?_, fun z hz => ?_⟩
      · rcases List.mem_cons.1 hz with rfl | hz
        · exact ⟨List.mem_cons_self .., hy⟩
        · obtain ⟨h6, h7⟩ := h4 z hz
          exact ⟨List.mem_cons_of_mem _ h6, fun hm => h7 (List.mem_append_left _ hm)⟩
      · rcases List.mem_cons.1 hz with rfl | hz
        · rw [h1]; simp
        · exact h5 z hz
theorem adAll_prop (N : Int → List Int) (us : List Int) : ∀ s : List Int × List Int, ∃ new, (adAll N us s).1 = s.1 ++ new ∧ (adAll N us s).2 = s.2 ++ new ∧ new.Nodup ∧ (∀ y ∈ new, (∃ u ∈ us, y ∈ N u) ∧ y ∉ s.1) ∧ ∀ u ∈ us, ∀ y ∈ N u, y ∈ (adAll N us s).1 := by
  induction us with
  | nil => intro s; exact ⟨[], by simp [adAll], by simp [adAll], by simp, (fun y hy => by cases hy), (fun u hu => by cases hu)⟩
  | cons u us ih =>
    intro s
    rw [adAll]
    obtain ⟨n1, a1, a2, a3, a4, a5⟩ := ad_prop (N u) s
    obtain ⟨n2, b1, b2, b3, b4, b5⟩ := ih (ad (N u) s)
    refine ⟨n1 ++ n2, by rw [b1, a1, List.append_assoc], by rw [b2, a2, List.append_assoc], List.nodup_append.2 ⟨a3, b3, fun x hx y hy e => ?_⟩, fun y hy => ?_, fun v hv y hy => ?_⟩
    · subst e
      exact (b4 x hy).2 (by rw [a1]; exact List.mem_append_right _ hx)
    · rcases List.mem_append.1 hy with hy | hy
      · exact ⟨⟨u, List.mem_cons_self .., (a4 y hy).1⟩, (a4 y hy).2⟩
      · obtain ⟨⟨v, hv, h6⟩, h7⟩ := b4 y hy
        exact ⟨⟨v, List.mem_cons_of_mem _ hv, h6⟩, fun hm => h7 (by rw [a1]; exact List.mem_append_left _ hm)⟩
    · rcases List.mem_cons.1 hv with rfl | hv
      · rw [b1]; exact List.mem_append_left _ (a5 y hy)
      · exact b5 v hv y hy
theorem ad_len (ys : List Int) (s : List Int × List Int) : (ad ys s).1.length ≤ s.1.length + ys.length ∧ (ad ys s).2.length ≤ s.2.length + ys.length := by
  induction ys generalizing s with
  | nil => simp [ad]
  | cons y ys ih =>
    rw [ad]
    split
    · have := ih s; simp only [List.length_cons]; omega
    · have := ih (s.1 ++ [y], s.2 ++ [y])
      simp only [List.length_cons, List.length_append, List.length_nil] at this ⊢
      omega
theorem st_l2 (l : List Kn) (b : Int) (stp : Int) (now : List Int) (i : Nat) (r : Int × Bool) (L : List Int) (hL : L.length ≤ 1000) (n : Nat) : ∀ (j : Nat) (s : List Int × List Int), j ≤ L.length → L.length - j ≤ n → s.1.length ≤ 100000 + j → s.2.length ≤ 100000 + j →
    Ev (fun k => spec_StepsApart.l1 k l b (ad (L.drop j) s).1 stp (ad (L.drop j) s).2 now (now.length : Int) (wrap64 ((i : Int) + 1))) r → Ev (fun k => spec_StepsApart.l2 k l b s.1 stp s.2 now (now.length : Int) (i : Int) L (L.length : Int) (j : Int)) r := by
  have stop : ∀ s : List Int × List Int, Ev (fun k => spec_StepsApart.l1 k l b (ad (L.drop L.length) s).1 stp (ad (L.drop L.length) s).2 now (now.length : Int) (wrap64 ((i : Int) + 1))) r → Ev (fun k => spec_StepsApart.l2 k l b s.1 stp s.2 now (now.length : Int) (i : Int) L (L.length : Int) (L.length : Int)) r := by
    intro s hr
    rw [List.drop_length] at hr
    refine Ev.step (f := fun k => _) (fun k => by rw [spec_StepsApart.l2]) (ifn (by omega) ?_)
    exact hr
  induction n with
  | zero =>
    intro j s h1 h2 _ _ hr
    obtain rfl : j = L.length := by omega
    exact stop s hr
  | succ n ih =>
    intro j s h1 h2 h3 h4 hr
    by_cases hj : j < L.length
    · refine Ev.step (f := fun k => _) (fun k => by rw [spec_StepsApart.l2]) (ifp (by omega) (ifp (by omega) (ifp (by omega) ?_)))
      rw [rdI L j hj, w64 ((j : Int) + 1) (by omega)]
      refine Ev.bind (l1Has L[j] s.1 (by omega)) ?_
      rw [List.drop_eq_getElem_cons hj, ad] at hr
      by_cases hc : s.1.contains L[j] = true
      · rw [if_pos hc] at hr
        exact ifp hc (ih (j + 1) s (by omega) (by omega) (by omega) (by omega) hr)
      · rw [if_neg hc] at hr
        exact ifn hc (ifp (by omega) (ifp (by omega) (ih (j + 1) (s.1 ++ [L[j]], s.2 ++ [L[j]]) (by omega) (by omega) (by simp; omega) (by simp; omega) hr)))
    · obtain rfl : j = L.length := by omega
      exact stop s hr
theorem st_l1 (l : List Kn) (hf : Fam l) (b : Int) (stp : Int) (now : List Int) (hnow : now.length ≤ 1000) (hr0 : ∀ u ∈ now, 0 ≤ u ∧ u < (l.length : Int)) (r : Int × Bool) (n : Nat) : ∀ (i : Nat) (s : List Int × List Int), i ≤ now.length → now.length - i ≤ n → s.1.length ≤ 1000 + 16 * i → s.2.length ≤ 16 * i →
    Ev (fun k => spec_StepsApart.l0 k l b (adAll (nbr l) (now.drop i) s).2 (adAll (nbr l) (now.drop i) s).1 (wrap64 (stp + 1))) r → Ev (fun k => spec_StepsApart.l1 k l b s.1 stp s.2 now (now.length : Int) (i : Int)) r := by
  have stop : ∀ s : List Int × List Int, Ev (fun k => spec_StepsApart.l0 k l b (adAll (nbr l) (now.drop now.length) s).2 (adAll (nbr l) (now.drop now.length) s).1 (wrap64 (stp + 1))) r → Ev (fun k => spec_StepsApart.l1 k l b s.1 stp s.2 now (now.length : Int) (now.length : Int)) r := by
    intro s hr
    rw [List.drop_length] at hr
    refine Ev.step (f := fun k => _) (fun k => by rw [spec_StepsApart.l1]) (ifn (by omega) ?_)
    exact hr
  induction n with
  | zero =>
    intro i s h1 h2 _ _ hr
    obtain rfl : i = now.length := by omega
    exact stop s hr
  | succ n ih =>
    intro i s h1 h2 h3 h4 hr
    by_cases hi : i < now.length
    · have hu := hr0 now[i] (List.getElem_mem hi)
      have hnl := nbr_len l hf now[i]
      have hpl := ps_len (rdK l now[i])
      have hkl := kids_len l now[i]
      have h14 := hf.1.2
      refine Ev.step (f := fun k => _) (fun k => by rw [spec_StepsApart.l1]) (ifp (by omega) (ifp (by omega) (ifp (by omega) ?_)))
      rw [rdI now i hi]
      refine Ev.bind (faParentsI l now[i] hu) (Ev.bind (faChildren l (by omega) now[i]) (ifp (by show (ps (rdK l now[i])).length + _ < _; omega) (call (b := nbr l now[i]) rfl ?_)))
      have hal := ad_len (nbr l now[i]) s
      refine st_l2 l b stp now i r (nbr l now[i]) (by omega) _ 0 s (by omega) (Nat.le_refl _) (by omega) (by omega) ?_
      rw [List.drop_zero, w64 _ (by omega)]
      rw [List.drop_eq_getElem_cons hi, adAll] at hr
      exact ih (i + 1) (ad (nbr l now[i]) s) (by omega) (by omega) (by omega) (by omega) hr
    · obtain rfl : i = now.length := by omega
      exact stop s hr
/-- Level t. -/
structure Lv (N : Int → List Int) (a : Int) (n t : Nat) (now seen : List Int) : Prop where
  sp : ∀ x, x ∈ seen ↔ ∃ m, m ≤ t ∧ Wk N a x m
  np : ∀ x, x ∈ now ↔ Wk N a x t ∧ ∀ m, m < t → ¬ Wk N a x m
  sd : seen.Nodup
  nd : now.Nodup
  rg : ∀ x ∈ seen, 0 ≤ x ∧ x < (n : Int)
theorem Lv.now_in {N : Int → List Int} {a : Int} {n t : Nat} {now seen : List Int} (h : Lv N a n t now seen) (x : Int) (hx : x ∈ now) : x ∈ seen := (h.sp x).2 ⟨t, Nat.le_refl _, ((h.np x).1 hx).1⟩
theorem Lv.next {N : Int → List Int} {a : Int} {n t : Nat} {now seen : List Int} (h : Lv N a n t now seen) (hN : ∀ x, 0 ≤ x ∧ x < (n : Int) → ∀ y ∈ N x, 0 ≤ y ∧ y < (n : Int)) :
    Lv N a n (t + 1) (adAll N now (seen, [])).2 (adAll N now (seen, [])).1 ∧ (adAll N now (seen, [])).1.length = seen.length + (adAll N now (seen, [])).2.length := by
  obtain ⟨new, e1, e2, h3, h4, h5⟩ := adAll_prop N now (seen, [])
  rw [List.nil_append] at e2
  have key : ∀ x m, Wk N a x m → m ≤ t + 1 → x ∈ (adAll N now (seen, [])).1 := by
    intro x m hw hm
    by_cases hmt : m ≤ t
    · rw [e1]; exact List.mem_append_left _ ((h.sp x).2 ⟨m, hmt, hw⟩)
    · obtain rfl : m = t + 1 := by omega
      cases hw with
      | on hu hk =>
        rename_i u
        by_cases hs : ∃ m', m' < t ∧ Wk N a u m'
        · obtain ⟨m', hm', hw'⟩ := hs
          rw [e1]; exact List.mem_append_left _ ((h.sp x).2 ⟨m' + 1, by omega, .on hw' hk⟩)
        · exact h5 u ((h.np u).2 ⟨hu, fun m' hm' hw' => hs ⟨m', hm', hw'⟩⟩) x hk
  have new1 : ∀ x ∈ new, Wk N a x (t + 1) ∧ x ∉ seen := by
    intro x hx
    obtain ⟨⟨u, hu, hk⟩, hs⟩ := h4 x hx
    exact ⟨.on ((h.np u).1 hu).1 hk, hs⟩
  refine ⟨⟨fun x => ⟨fun hx => ?_, fun ⟨m, hm, hw⟩ => key x m hw hm⟩, fun x => ⟨fun hx => ?_, fun ⟨hw, hno⟩ => ?_⟩, ?_, ?_, fun x hx => ?_⟩, ?_⟩
  · rw [e1] at hx
    rcases List.mem_append.1 hx with hx | hx
    · obtain ⟨m, hm, hw⟩ := (h.sp x).1 hx
      exact ⟨m, by omega, hw⟩
    · exact ⟨t + 1, Nat.le_refl _, (new1 x hx).1⟩
  · rw [e2] at hx
    obtain ⟨hw, hs⟩ := new1 x hx
    exact ⟨hw, fun m hm hw' => hs ((h.sp x).2 ⟨m, by omega, hw'⟩)⟩
  · have h6 := key x (t + 1) hw (Nat.le_refl _)
    rw [e1] at h6
    rw [e2]
    rcases List.mem_append.1 h6 with h6 | h6
    · obtain ⟨m, hm, hw'⟩ := (h.sp x).1 h6
      exact absurd hw' (hno m (by omega))
    · exact h6
  · rw [e1]
    exact List.nodup_append.2 ⟨h.sd, h3, fun x hx y hy e => (new1 y hy).2 (e ▸ hx)⟩
  · rw [e2]; exact h3
  · rw [e1] at hx
    rcases List.mem_append.1 hx with hx | hx
    · exact h.rg x hx
    · obtain ⟨⟨u, hu, hk⟩, _⟩ := h4 x hx
      exact hN u (h.rg u (h.now_in u hu)) x hk
  · rw [e1, e2, List.length_append]
theorem Lv.gap {N : Int → List Int} {a : Int} {n t : Nat} {seen : List Int} (h : Lv N a n t [] seen) (x : Int) (m : Nat) (hw : Wk N a x m) : ∃ m', m' < t ∧ Wk N a x m' := by
  have no : ∀ x, ¬ (Wk N a x t ∧ ∀ m, m < t → ¬ Wk N a x m) := fun x hx => by have := (h.np x).2 hx; cases this
  induction hw with
  | now =>
    by_cases ht : 0 < t
    · exact ⟨0, ht, .now⟩
    · obtain rfl : t = 0 := by omega
      exact absurd ⟨.now, fun m hm => absurd hm (Nat.not_lt_zero _)⟩ (no a)
  | on hw hk ih =>
    obtain ⟨m', hm', hw'⟩ := ih
    by_cases he : m' + 1 < t
    · exact ⟨m' + 1, he, .on hw' hk⟩
    · obtain rfl : t = m' + 1 := by omega
      rename_i v _
      by_cases hs : ∃ m2, m2 < m' + 1 ∧ Wk N a v m2
      · exact hs
      · exact absurd ⟨.on hw' hk, fun m2 h2 h3 => hs ⟨m2, h2, h3⟩⟩ (no v)
/-- What is told: how many steps there are at least, or that there are none. -/
def Told (N : Int → List Int) (a b : Int) (v : Int × Bool) : Prop := (v = (0, false) ∧ ∀ m, ¬ Wk N a b m) ∨ ∃ m : Nat, v = ((m : Int), true) ∧ Wk N a b m ∧ ∀ j, Wk N a b j → m ≤ j
theorem st_l0 (l : List Kn) (hf : Fam l) (a b : Int) (d : Nat) : ∀ (t : Nat) (now seen : List Int), Lv (nbr l) a l.length t now seen → (now ≠ [] → t + 1 ≤ seen.length) → (∀ m, m < t → ¬ Wk (nbr l) a b m) → l.length - t ≤ d → t ≤ l.length + 1 →
    ∃ v, Ev (fun k => spec_StepsApart.l0 k l b now seen (t : Int)) v ∧ Told (nbr l) a b v := by
  have h14 := hf.1.2
  have stop : ∀ (t : Nat) (seen : List Int), Lv (nbr l) a l.length t [] seen → (∀ m, m < t → ¬ Wk (nbr l) a b m) → ∃ v, Ev (fun k => spec_StepsApart.l0 k l b [] seen (t : Int)) v ∧ Told (nbr l) a b v := by
    intro t seen h hno
    refine ⟨(0, false), Ev.step (f := fun k => _) (fun k => by rw [spec_StepsApart.l0]) (ifn (by simp) now), .inl ⟨rfl, fun m hm => ?_⟩⟩
    obtain ⟨m', h1, h2⟩ := h.gap b m hm
    exact hno m' h1 h2
  induction d with
  | zero =>
    intro t now seen h hlen hno hd _
    have h1 := few l.length seen h.sd h.rg
    by_cases hn : now = []
    · subst hn; exact stop t seen h hno
    · have := hlen hn; omega
  | succ d ih =>
    intro t now_ seen h hlen hno hd ht
    have h1 := few l.length seen h.sd h.rg
    have hnr : ∀ x ∈ now_, 0 ≤ x ∧ x < (l.length : Int) := fun x hx => h.rg x (h.now_in x hx)
    have h2 := few l.length now_ h.nd hnr
    by_cases hn : now_ = []
    · subst hn; exact stop t seen h hno
    · have hpos : (now_.length : Int) > 0 := by
        have : now_.length ≠ 0 := fun e => hn (List.eq_nil_of_length_eq_zero e)
        omega
      have hts := hlen hn
      by_cases hb : b ∈ now_
      · have hc : now_.contains b = true := List.contains_iff_mem.2 hb
        have hw := (h.np b).1 hb
        have hh := l1Has b now_ (by omega)
        refine ⟨((t : Int), true), Ev.step (f := fun k => _) (fun k => by rw [spec_StepsApart.l0]) (ifp hpos (Ev.bind hh (ifp hc now))), .inr ⟨t, rfl, hw.1, fun j hj => ?_⟩⟩
        by_cases hjt : j < t
        · exact absurd hj (hw.2 j hjt)
        · omega
      · have hc : ¬ now_.contains b = true := fun hm => hb (List.contains_iff_mem.1 hm)
        have hh := l1Has b now_ (by omega)
        obtain ⟨h3, h4⟩ := h.next (fun x hx y hy => nbr_in l hf x y hx hy)
        have hno2 : ∀ m, m < t + 1 → ¬ Wk (nbr l) a b m := by
          intro m hm hw
          by_cases hmt : m < t
          · exact hno m hmt hw
          · obtain rfl : m = t := by omega
            exact hb ((h.np b).2 ⟨hw, hno⟩)
        obtain ⟨v, e, hv⟩ := ih (t + 1) _ _ h3 (fun hne => by
          have : (adAll (nbr l) now_ (seen, [])).2.length ≠ 0 := fun e => hne (List.eq_nil_of_length_eq_zero e)
          omega) hno2 (by omega) (by omega)
        refine ⟨v, Ev.step (f := fun k => _) (fun k => by rw [spec_StepsApart.l0]) (ifp hpos (Ev.bind hh (ifn hc ?_))), hv⟩
        refine st_l1 l hf b (t : Int) now_ (by omega) hnr v _ 0 (seen, []) (by omega) (Nat.le_refl _) (by simp; omega) (by simp) ?_
        rw [List.drop_zero, w64 _ (by omega)]
        exact e
theorem spec_steps (l : List Kn) (hf : Fam l) (a b : Int) (ha : 0 ≤ a ∧ a < (l.length : Int)) : ∃ v, Ev (fun k => spec_StepsApart.l0 k l b [a] [a] 0) v ∧ Told (nbr l) a b v := by
  have w0 : ∀ x, Wk (nbr l) a x 0 ↔ x = a := fun x => ⟨fun h => by cases h; rfl, fun e => by subst e; exact .now⟩
  refine st_l0 l hf a b _ 0 [a] [a] ⟨fun x => ?_, fun x => ?_, by simp, by simp, fun x hx => by rw [List.mem_singleton.1 hx]; exact ha⟩ (fun _ => by simp) (fun m hm => absurd hm (Nat.not_lt_zero _)) (Nat.le_refl _) (by omega)
  · rw [List.mem_singleton]
    constructor
    · rintro rfl; exact ⟨0, Nat.le_refl _, .now⟩
    · rintro ⟨m, hm, hw⟩
      obtain rfl : m = 0 := by omega
      exact (w0 x).1 hw
  · rw [List.mem_singleton]
    constructor
    · rintro rfl; exact ⟨.now, fun m hm => absurd hm (Nat.not_lt_zero _)⟩
    · rintro ⟨hw, _⟩; exact (w0 x).1 hw
theorem Told_one (N : Int → List Int) (a b : Int) (v w : Int × Bool) (h : Told N a b v) (k : Told N a b w) : v = w := by
  rcases h with ⟨h1, h2⟩ | ⟨m, h1, h2, h3⟩
  · rcases k with ⟨k1, _⟩ | ⟨m', _, k2, _⟩
    · rw [h1, k1]
    · exact absurd k2 (h2 _)
  · rcases k with ⟨_, k2⟩ | ⟨m', k1, k2, k3⟩
    · exact absurd h2 (k2 _)
    · have := h3 _ k2
      have := k3 _ h2
      obtain rfl : m = m' := by omega
      rw [h1, k1]
end Go.Proofs.YtllihaahppelhaaGreat.Pr
namespace Go.Proofs.YtllihaahppelhaaGreat.Pr
open Go.RowKit Go.Proofs.YtllihaahppelhaaGreat.P Go.Proofs.YtllihaahppelhaaGreatW.PrintWords Go.Proofs.YtllihaahppelhaaGreat.E
theorem Wk_cons {N : Int → List Int} {s t : Int} (h : t ∈ N s) : ∀ {x : Int} {m : Nat}, Wk N t x m → Wk N s x (m + 1)
  | _, _, .now => .on .now h
  | _, _, .on hw k => .on (Wk_cons h hw) k
theorem Wk_keep {N : Int → List Int} {R : Int → Prop} (hR : ∀ x y, R x → y ∈ N x → R y) {a : Int} (ha : R a) : ∀ {x : Int} {m : Nat}, Wk N a x m → R x
  | _, _, .now => ha
  | _, _, .on hw k => hR _ _ (Wk_keep hR ha hw) k
/-- A walk turned round, where the steps go both ways. -/
theorem Wk_rev {N : Int → List Int} {R : Int → Prop} (hR : ∀ x y, R x → y ∈ N x → R y) (hs : ∀ x y, R x → y ∈ N x → x ∈ N y) {a : Int} (ha : R a) : ∀ {x : Int} {m : Nat}, Wk N a x m → Wk N x a m
  | _, _, .now => .now
  | _, _, .on hw k => Wk_cons (hs _ _ (Wk_keep hR ha hw) k) (Wk_rev hR hs ha hw)
/-- A walk by fewer steps is a walk by more. -/
theorem Wk_sub {M N : Int → List Int} (hs : ∀ x y, y ∈ M x → y ∈ N x) {a : Int} : ∀ {x : Int} {m : Nat}, Wk M a x m → Wk N a x m
  | _, _, .now => .now
  | _, _, .on hw k => .on (Wk_sub hs hw) (hs _ _ k)
theorem Told_rev {N : Int → List Int} {R : Int → Prop} (hR : ∀ x y, R x → y ∈ N x → R y) (hs : ∀ x y, R x → y ∈ N x → x ∈ N y) {a b : Int} (ha : R a) (hb : R b) {v : Int × Bool} (h : Told N a b v) : Told N b a v := by
  rcases h with ⟨h1, h2⟩ | ⟨m, h1, h2, h3⟩
  · exact .inl ⟨h1, fun m hw => h2 m (Wk_rev hR hs hb hw)⟩
  · exact .inr ⟨m, h1, Wk_rev hR hs ha h2, fun j hj => h3 j (Wk_rev hR hs hb hj)⟩
/-- Steps apart are no more than a walk has. -/
theorem Told_le {N : Int → List Int} {a b : Int} {v : Int × Bool} {m : Nat} (h : Told N a b v) (hw : Wk N a b m) : v.2 = true ∧ 0 ≤ v.1 ∧ v.1 ≤ (m : Int) := by
  rcases h with ⟨_, h2⟩ | ⟨q, h1, _, h3⟩
  · exact absurd hw (h2 m)
  · subst h1
    exact ⟨rfl, Int.natCast_nonneg _, by have := h3 m hw; dsimp only; omega⟩
theorem Told_pos {N : Int → List Int} {a b : Int} {v : Int × Bool} (h : Told N a b v) (hne : a ≠ b) (hv : v.2 = true) : 1 ≤ v.1 := by
  rcases h with ⟨h1, _⟩ | ⟨q, h1, hw, _⟩
  · rw [h1] at hv; exact absurd hv (by decide)
  · subst h1
    cases q with
    | zero => cases hw; exact absurd rfl hne
    | succ q => dsimp only; omega
end Go.Proofs.YtllihaahppelhaaGreat.Pr
namespace Go.Proofs.YtllihaahppelhaaGreat.Pr
open Go.RowKit Go.Proofs.YtllihaahppelhaaGreat.P Go.Proofs.YtllihaahppelhaaGreatW.PrintWords Go.Proofs.YtllihaahppelhaaGreat.E
theorem kids_iff (l : List Kn) (x c : Int) : c ∈ kids l x ↔ (0 ≤ c ∧ c < (l.length : Int)) ∧ x ∈ pp l c := by
  unfold kids
  simp only [List.mem_map, List.mem_filter, List.mem_range, kid, List.contains_iff_mem]
  constructor
  · rintro ⟨i, ⟨h1, h2⟩, rfl⟩
    exact ⟨⟨by omega, by omega⟩, h2⟩
  · rintro ⟨⟨h1, h2⟩, h3⟩
    obtain ⟨i, rfl⟩ := Int.eq_ofNat_of_zero_le h1
    exact ⟨i, ⟨by omega, h3⟩, rfl⟩
theorem kids_gt (l : List Kn) (hf : Fam l) (x c : Int) (h : c ∈ kids l x) : x < c := by
  obtain ⟨h1, h2⟩ := (kids_iff l x c).1 h
  exact (Fam_pp l hf c x h1 h2).2
theorem Wk_in (l : List Kn) (hf : Fam l) (b : Int) (hb : 0 ≤ b ∧ b < (l.length : Int)) (x : Int) (m : Nat) (h : Wk (pp l) b x m) : 0 ≤ x ∧ x + m ≤ b := by
  induction h with
  | now => omega
  | on hu hk ih =>
    have := Fam_pp l hf _ _ (by omega) hk
    omega
theorem Wk_kid (l : List Kn) (hf : Fam l) (b : Int) (hb : 0 ≤ b ∧ b < (l.length : Int)) (x : Int) (m : Nat) : Wk (pp l) b x (m + 1) ↔ ∃ c, c ∈ kids l x ∧ Wk (pp l) b c m := by
  constructor
  · intro h
    cases h with
    | on hu hk =>
      rename_i u
      have := Wk_in l hf b hb u m hu
      exact ⟨u, (kids_iff l x u).2 ⟨by omega, hk⟩, hu⟩
  · rintro ⟨c, h1, h2⟩
    exact .on h2 ((kids_iff l x c).1 h1).2
theorem Wk_zero (l : List Kn) (b x : Int) (h : Wk (pp l) b x 0) : x = b := by cases h; rfl
/-- The least of the numbers that are told, and one more. -/
def mn (o : List Int) : List Int → Int → Int
  | [], a => a
  | c :: cs, a => mn o cs (if 0 ≤ rd o c ∧ (a < 0 ∨ rd o c + 1 < a) then rd o c + 1 else a)
def Mn (o : List Int) (done : List Int) (a : Int) : Prop := (a = -1 ∧ ∀ c ∈ done, rd o c < 0) ∨ ((∃ c ∈ done, 0 ≤ rd o c ∧ a = rd o c + 1) ∧ ∀ c ∈ done, rd o c < 0 ∨ a ≤ rd o c + 1)
theorem Mn_step (o done : List Int) (a c : Int) (h : Mn o done a) : Mn o (done ++ [c]) (if 0 ≤ rd o c ∧ (a < 0 ∨ rd o c + 1 < a) then rd o c + 1 else a) := by
  split
  · rename_i hc
    refine .inr ⟨⟨c, by simp, hc.1, rfl⟩, fun x hx => ?_⟩
    rcases List.mem_append.1 hx with hx | hx
    · rcases h with ⟨_, h2⟩ | ⟨⟨d, _, h3, h4⟩, h5⟩
      · exact .inl (h2 x hx)
      · rcases h5 x hx with h6 | h6
        · exact .inl h6
        · right; omega
    · rw [List.mem_singleton.1 hx]; right; omega
  · rename_i hc
    rcases h with ⟨h1, h2⟩ | ⟨⟨d, hd, h3, h4⟩, h5⟩
    · refine .inl ⟨h1, fun x hx => ?_⟩
      rcases List.mem_append.1 hx with hx | hx
      · exact h2 x hx
      · rw [List.mem_singleton.1 hx]; omega
    · refine .inr ⟨⟨d, List.mem_append_left _ hd, h3, h4⟩, fun x hx => ?_⟩
      rcases List.mem_append.1 hx with hx | hx
      · exact h5 x hx
      · rw [List.mem_singleton.1 hx]; omega
theorem mn_Mn (o : List Int) (cs : List Int) : ∀ (done : List Int) (a : Int), Mn o done a → Mn o (done ++ cs) (mn o cs a) := by
  induction cs with
  | nil => intro done a h; simpa [mn] using h
  | cons c cs ih =>
    intro done a h
    have := ih (done ++ [c]) _ (Mn_step o done a c h)
    rw [List.append_assoc] at this
    exact this
theorem down_l1 (l : List Kn) (b who : Int) (hw : 0 ≤ who ∧ who < (l.length : Int)) (r o L : List Int) (ho : o.length = l.length) (hL : L.length ≤ 1000) (hin : ∀ c ∈ L, (0 ≤ c ∧ c < (l.length : Int)) ∧ c ≠ who ∧ rd o c ≤ 1000) (n : Nat) : ∀ (j : Nat) (a : Int), j ≤ L.length → L.length - j ≤ n →
    Ev (fun k => spec_faDown.l0 k l b (o.set who.toNat (mn o (L.drop j) a)) (wrap64 (who - 1))) r → Ev (fun k => spec_faDown.l1 k l b (o.set who.toNat a) who L (L.length : Int) (j : Int)) r := by
  have stop : ∀ a, Ev (fun k => spec_faDown.l0 k l b (o.set who.toNat (mn o (L.drop L.length) a)) (wrap64 (who - 1))) r → Ev (fun k => spec_faDown.l1 k l b (o.set who.toNat a) who L (L.length : Int) (L.length : Int)) r := by
    intro a hr
    rw [List.drop_length] at hr
    refine Ev.step (f := fun k => _) (fun k => by rw [spec_faDown.l1]) (ifn (by omega) ?_)
    exact hr
  induction n with
  | zero =>
    intro j a h1 h2 hr
    obtain rfl : j = L.length := by omega
    exact stop a hr
  | succ n ih =>
    intro j a h1 h2 hr
    by_cases hj : j < L.length
    · obtain ⟨hc, hne, hbd⟩ := hin L[j] (List.getElem_mem hj)
      rw [List.drop_eq_getElem_cons hj, mn] at hr
      generalize hcL : L[j] = c at hc hne hbd hr
      have e1 : rd (o.set who.toNat a) c = rd o c := rd_set_ne o who c a ⟨hw.1, hc.1, hne⟩
      have e2 : rd (o.set who.toNat a) who = a := rd_set_same o who a ⟨hw.1, by omega⟩
      have hlen : ((o.set who.toNat a).length : Int) = (l.length : Int) := by rw [List.length_set, ho]
      refine Ev.step (f := fun k => _) (fun k => by rw [spec_faDown.l1]) (ifp (by omega) (ifp (by omega) (ifp (by omega) ?_)))
      rw [rdI L j hj, hcL, w64 ((j : Int) + 1) (by omega), e1, e2, hlen]
      refine ifp hc.1 (ifp hc.2 ?_)
      by_cases h0 : 0 ≤ rd o c
      · rw [w64 _ (by omega)]
        refine ifp h0 (ifp hw.1 (ifp hw.2 ?_))
        rw [List.set_set]
        by_cases ha : a < 0
        · rw [if_pos ⟨h0, .inl ha⟩] at hr
          exact ifp ha (ih (j + 1) _ (by omega) (by omega) hr)
        · refine ifn ha ?_
          by_cases h3 : rd o c + 1 < a
          · rw [if_pos ⟨h0, .inr h3⟩] at hr
            exact ifp h3 (ih (j + 1) _ (by omega) (by omega) hr)
          · rw [if_neg (by omega)] at hr
            exact ifn h3 (ih (j + 1) _ (by omega) (by omega) hr)
      · rw [if_neg (by omega)] at hr
        exact ifn h0 (ih (j + 1) _ (by omega) (by omega) hr)
    · obtain rfl : j = L.length := by omega
      exact stop a hr
/-- What the table is when all from who on are done. -/
def Dn (l : List Kn) (b : Int) (o : List Int) (who : Int) : Prop := o.length = l.length ∧ ∀ x, who < x → x < (l.length : Int) → Least (pp l) b x (rd o x)
theorem Dn_step (l : List Kn) (hf : Fam l) (b who : Int) (hb : 0 ≤ b ∧ b < (l.length : Int)) (o : List Int) (h : Dn l b o who) (hne : who ≠ b) (v : Int) (hv : Mn o (kids l who) v) : Least (pp l) b who v := by
  have hL : ∀ c ∈ kids l who, Least (pp l) b c (rd o c) := fun c hc => h.2 c (kids_gt l hf who c hc) ((kids_iff l who c).1 hc).1.2
  have pos : ∀ m, Wk (pp l) b who m → ∃ m', m = m' + 1 := by
    intro m hm
    cases m with
    | zero => exact absurd (Wk_zero l b who hm) hne
    | succ m => exact ⟨m, rfl⟩
  rcases hv with ⟨h1, h2⟩ | ⟨⟨c, hc, h3, h4⟩, h5⟩
  · refine .inl ⟨h1, fun m hm => ?_⟩
    obtain ⟨m, rfl⟩ := pos m hm
    obtain ⟨c, hc, hwk⟩ := (Wk_kid l hf b hb who m).1 hm
    rcases hL c hc with ⟨_, h3⟩ | ⟨m', h3, _⟩
    · exact h3 m hwk
    · have := h2 c hc; omega
  · rcases hL c hc with ⟨h6, _⟩ | ⟨m, h6, h7, _⟩
    · omega
    · refine .inr ⟨m + 1, by omega, (Wk_kid l hf b hb who m).2 ⟨c, hc, h7⟩, fun k hk => ?_⟩
      obtain ⟨k, rfl⟩ := pos k hk
      obtain ⟨d, hd, hwk⟩ := (Wk_kid l hf b hb who k).1 hk
      rcases hL d hd with ⟨_, h8⟩ | ⟨m', h8, _, h9⟩
      · exact absurd hwk (h8 k)
      · have := h9 k hwk
        rcases h5 d hd with h10 | h10 <;> omega
theorem Least_bd (l : List Kn) (hf : Fam l) (b x d : Int) (hb : 0 ≤ b ∧ b < (l.length : Int)) (h : Least (pp l) b x d) : d ≤ 14 := by
  have h14 := hf.1.2
  rcases h with ⟨h1, _⟩ | ⟨m, h1, h2, _⟩
  · omega
  · have := Wk_in l hf b hb x m h2; omega
theorem down_l0 (l : List Kn) (hf : Fam l) (b : Int) (hb : 0 ≤ b ∧ b < (l.length : Int)) (n : Nat) : ∀ (who : Int) (o : List Int), -1 ≤ who → who < (l.length : Int) → who + 1 ≤ (n : Int) → Dn l b o who →
    ∃ r, Ev (fun k => spec_faDown.l0 k l b o who) r ∧ Dn l b r (-1) := by
  have h14 := hf.1.2
  induction n with
  | zero =>
    intro who o h1 h2 h3 h
    obtain rfl : who = -1 := by omega
    exact ⟨o, Ev.step (f := fun k => _) (fun k => by rw [spec_faDown.l0]) (ifn (by omega) now), h⟩
  | succ n ih =>
    intro who o h1 h2 h3 h
    by_cases h0 : who ≥ 0
    · have ho := h.1
      have e0 : wrap64 (who - 1) = who - 1 := w64 _ (by omega)
      have next : ∀ v, Least (pp l) b who v → Dn l b (o.set who.toNat v) (who - 1) := by
        intro v hv
        refine ⟨by rw [List.length_set]; exact ho, fun x hx hx2 => ?_⟩
        by_cases e : x = who
        · subst e; rw [rd_set_same o x v ⟨h0, by omega⟩]; exact hv
        · rw [rd_set_ne o who x v ⟨h0, by omega, e⟩]; exact h.2 x (by omega) hx2
      by_cases hbw : who = b
      · obtain ⟨r, e, hr⟩ := ih (who - 1) _ (by omega) (by omega) (by omega) (next 0 (by rw [hbw]; exact .inr ⟨0, rfl, .now, fun k _ => Nat.zero_le k⟩))
        refine ⟨r, ?_, hr⟩
        refine Ev.step (f := fun k => _) (fun k => by rw [spec_faDown.l0]) (ifp h0 (ifp (show (0 : Int) ≤ who from h0) (ifp (by omega) ?_)))
        refine call (b := o.set who.toNat (-1)) rfl ?_
        refine ifp hbw ?_
        rw [List.set_set, e0]
        exact e
      · have hm : Mn o (kids l who) (mn o (kids l who) (-1)) := mn_Mn o (kids l who) [] (-1) (.inl ⟨rfl, fun c hc => by cases hc⟩)
        obtain ⟨r, e, hr⟩ := ih (who - 1) _ (by omega) (by omega) (by omega) (next _ (Dn_step l hf b who hb o h hbw _ hm))
        have hkl := kids_len l who
        refine ⟨r, ?_, hr⟩
        refine Ev.step (f := fun k => _) (fun k => by rw [spec_faDown.l0]) (ifp h0 (ifp (show (0 : Int) ≤ who from h0) (ifp (by omega) ?_)))
        refine call (b := o.set who.toNat (-1)) rfl ?_
        refine ifn hbw (Ev.bind (faChildren l (by omega) who) ?_)
        refine down_l1 l b who ⟨h0, h2⟩ r o (kids l who) ho (by omega) (fun c hc => ?_) _ 0 (-1) (by omega) (Nat.le_refl _) ?_
        · have hg := kids_gt l hf who c hc
          have hi := ((kids_iff l who c).1 hc).1
          have := Least_bd l hf b c _ hb (h.2 c hg hi.2)
          exact ⟨hi, by omega, by omega⟩
        · rw [List.drop_zero, e0]
          exact e
    · obtain rfl : who = -1 := by omega
      exact ⟨o, Ev.step (f := fun k => _) (fun k => by rw [spec_faDown.l0]) (ifn (by omega) now), h⟩
theorem faDown (l : List Kn) (hf : Fam l) (b : Int) (hb : 0 ≤ b ∧ b < (l.length : Int)) : ∃ far, Ev (fun k => spec_faDown.f k l b) far ∧ far.length = l.length ∧ ∀ x, 0 ≤ x ∧ x < (l.length : Int) → Least (pp l) b x (rd far x) := by
  have h14 := hf.1
  obtain ⟨r, e, h1, h2⟩ := down_l0 l hf b hb l.length ((l.length : Int) - 1) (List.replicate l.length 0) (by omega) (by omega) (by omega) ⟨by simp, fun x h1 h2 => by omega⟩
  refine ⟨r, ?_, h1, fun x hx => h2 x (by omega) hx.2⟩
  unfold spec_faDown.f
  rw [Int.toNat_natCast, w64 _ (by omega)]
  exact ifp (by omega) (ifp (by omega) e)
end Go.Proofs.YtllihaahppelhaaGreat.Pr
namespace Go.Proofs.YtllihaahppelhaaGreat.Pr
open Go.RowKit Go.Proofs.YtllihaahppelhaaGreat.P Go.Proofs.YtllihaahppelhaaGreatW.PrintWords Go.Proofs.YtllihaahppelhaaGreat.E
theorem sib_iff (l : List Kn) (a b : Int) : sib l a b = true ↔ a ≠ b ∧ ∃ x, x ∈ pp l a ∧ x ∈ pp l b := by
  unfold sib shared
  by_cases h : a = b
  · rw [if_pos h]; exact ⟨fun h => absurd h (by decide), fun h2 => absurd h h2.1⟩
  · rw [if_neg h, decide_eq_true_iff]
    constructor
    · intro h2
      obtain ⟨x, hx⟩ := List.exists_mem_of_length_pos (show 0 < ((pp l a).filter fun x => (pp l b).contains x).length by omega)
      obtain ⟨h3, h4⟩ := List.mem_filter.1 hx
      exact ⟨h, x, h3, List.contains_iff_mem.1 h4⟩
    · rintro ⟨_, x, h3, h4⟩
      exact Int.natCast_pos.2 (List.length_pos_of_mem (List.mem_filter.2 ⟨h3, List.contains_iff_mem.2 h4⟩))
theorem sib_sym (l : List Kn) (a b : Int) : sib l a b = sib l b a := by
  rw [Bool.eq_iff_iff, sib_iff, sib_iff]
  exact ⟨fun ⟨h, x, p, q⟩ => ⟨Ne.symm h, x, q, p⟩, fun ⟨h, x, p, q⟩ => ⟨Ne.symm h, x, q, p⟩⟩
theorem sib_no (l : List Kn) (a b : Int) : sib l a b = false ↔ ¬ sib l a b = true := by cases sib l a b <;> simp
theorem cous_iff (l : List Kn) (a b : Int) : cous l a b = true ↔ a ≠ b ∧ sib l a b = false ∧ ∃ p, p ∈ pp l a ∧ ∃ q, q ∈ pp l b ∧ sib l p q = true := by
  unfold cous aunt
  by_cases h : a = b
  · rw [if_pos h]; exact ⟨fun h => absurd h (by decide), fun h2 => absurd h h2.1⟩
  rw [if_neg h]
  by_cases h2 : sib l a b = true
  · rw [if_pos h2, h2]; exact ⟨fun h => absurd h (by decide), fun h3 => absurd h3.2.1 (by decide)⟩
  · rw [if_neg h2, List.any_eq_true]
    constructor
    · rintro ⟨p, h3, h4⟩
      obtain ⟨q, h5, h6⟩ := List.any_eq_true.1 h4
      exact ⟨h, (sib_no l a b).2 h2, p, h3, q, h5, h6⟩
    · rintro ⟨_, _, p, h3, q, h5, h6⟩
      exact ⟨p, h3, List.any_eq_true.2 ⟨q, h5, h6⟩⟩
theorem cous_sym (l : List Kn) (a b : Int) : cous l a b = cous l b a := by
  rw [Bool.eq_iff_iff, cous_iff, cous_iff, sib_sym l b a]
  exact ⟨fun ⟨h, k, p, h1, q, h2, h3⟩ => ⟨Ne.symm h, k, q, h2, p, h1, sib_sym l p q ▸ h3⟩, fun ⟨h, k, p, h1, q, h2, h3⟩ => ⟨Ne.symm h, k, q, h2, p, h1, sib_sym l p q ▸ h3⟩⟩
theorem comms_sym (l : List Kn) (a b : Int) : comms l a b = comms l b a := by
  unfold comms
  congr 1
  funext j
  exact propext ⟨fun h => ⟨h.2, h.1⟩, fun h => ⟨h.2, h.1⟩⟩
theorem comms_sib (l : List Kn) (hf : Fam l) (a b : Int) (ha : 0 ≤ a ∧ a < (l.length : Int)) (h : sib l a b = true) : 0 < (comms l a b).length := by
  obtain ⟨_, x, h1, h2⟩ := (sib_iff l a b).1 h
  have := Fam_pp l hf a x ha h1
  exact List.length_pos_of_mem ((upTo_mem _ _ x).2 ⟨by omega, .one h1, .one h2⟩)
theorem grand_lt (l : List Kn) (hf : Fam l) (a b : Int) (hb : 0 ≤ b ∧ b < (l.length : Int)) (h : grand l a b = true) : a < b := by
  obtain ⟨p, h1, h2⟩ := List.any_eq_true.1 h
  have h3 := Fam_pp l hf b p hb h1
  have h4 := Fam_pp l hf p a (by omega) (List.contains_iff_mem.1 h2)
  omega
def relB (e p1 p2 s g1 g2 u1 u2 c A1 A2 k : Bool) : Nat :=
  if e then 0 else if p1 then 1 else if p2 then 2 else if s then 3 else if g1 then 4 else if g2 then 5 else if u1 then 6 else if u2 then 7 else if c then 8 else if A1 then 9 else if A2 then 10 else if k then 11 else 12
/-- What somebody is to another one, and the other one to the first. -/
def pairs : List (Nat × Nat) := [(0, 0), (1, 2), (2, 1), (3, 3), (4, 5), (5, 4), (6, 7), (6, 6), (7, 6), (8, 8), (9, 10), (10, 9), (11, 11), (12, 12)]
theorem relB_pair (e p1 p2 s g1 g2 u1 u2 c A1 A2 k : Bool) (h1 : (p1 && p2) = false) (h2 : (g1 && g2) = false) (h3 : (A1 && A2) = false) :
    (relB e p1 p2 s g1 g2 u1 u2 c A1 A2 k, relB e p2 p1 s g2 g1 u2 u1 c A2 A1 k) ∈ pairs := by
  cases e with
  | true => simp [relB, pairs]
  | false =>
    cases p1 with
    | true => obtain rfl : p2 = false := h1; simp [relB, pairs]
    | false =>
      cases p2 with
      | true => simp [relB, pairs]
      | false =>
        cases s with
        | true => simp [relB, pairs]
        | false =>
          cases g1 with
          | true => obtain rfl : g2 = false := h2; simp [relB, pairs]
          | false =>
            cases g2 with
            | true => simp [relB, pairs]
            | false =>
              cases u1 with
              | true => cases u2 <;> simp [relB, pairs]
              | false =>
                cases u2 with
                | true => simp [relB, pairs]
                | false =>
                  cases c with
                  | true => simp [relB, pairs]
                  | false =>
                    cases A1 with
                    | true => obtain rfl : A2 = false := h3; simp [relB, pairs]
                    | false => cases A2 <;> cases k <;> simp [relB, pairs]
theorem relNo_B (l : List Kn) (a b : Int) : relNo l a b = relB (decide (a = b)) ((pp l b).contains a) ((pp l a).contains b) (sib l a b) (grand l a b) (grand l b a) (aunt l a b) (aunt l b a) (cous l a b) (dec (Anc l a b)) (dec (Anc l b a)) (decide (((comms l a b).length : Int) > 0)) := by
  unfold relNo relB
  simp only [decide_eq_true_eq]
theorem and_no {p q : Bool} (h : p = true → q = true → False) : (p && q) = false := by
  cases p with
  | false => rfl
  | true =>
    cases q with
    | false => rfl
    | true => exact (h rfl rfl).elim
theorem relNo_pair (l : List Kn) (hf : Fam l) (a b : Int) (ha : 0 ≤ a ∧ a < (l.length : Int)) (hb : 0 ≤ b ∧ b < (l.length : Int)) : (relNo l a b, relNo l b a) ∈ pairs := by
  rw [relNo_B l a b, relNo_B l b a, sib_sym l b a, cous_sym l b a, comms_sym l b a, show decide (b = a) = decide (a = b) from decide_eq_decide.2 ⟨Eq.symm, Eq.symm⟩]
  refine relB_pair _ _ _ _ _ _ _ _ _ _ _ _ (and_no fun h1 h2 => ?_) (and_no fun h1 h2 => ?_) (and_no fun h1 h2 => ?_)
  · have := Fam_pp l hf b a hb (List.contains_iff_mem.1 h1)
    have := Fam_pp l hf a b ha (List.contains_iff_mem.1 h2)
    omega
  · have := grand_lt l hf a b hb h1
    have := grand_lt l hf b a ha h2
    omega
  · have := Anc_lt l hf a b ((dec_iff _).1 h1) hb
    have := Anc_lt l hf b a ((dec_iff _).1 h2) ha
    omega
theorem relNo_self (l : List Kn) (a b : Int) : relNo l a b = 0 ↔ a = b := by
  unfold relNo
  by_cases h : a = b
  · rw [if_pos h]; exact ⟨fun _ => h, fun _ => rfl⟩
  · rw [if_neg h]
    refine ⟨fun h2 => ?_, fun h2 => absurd h2 h⟩
    repeat' split at h2
    all_goals exact absurd h2 (by decide)
theorem relNo_parent (l : List Kn) (hf : Fam l) (a b : Int) (hb : 0 ≤ b ∧ b < (l.length : Int)) : relNo l a b = 1 ↔ (pp l b).contains a = true := by
  unfold relNo
  by_cases h : a = b
  · rw [if_pos h]
    refine ⟨fun h2 => absurd h2 (by decide), fun h2 => ?_⟩
    have := Fam_pp l hf b a hb (List.contains_iff_mem.1 h2)
    omega
  · rw [if_neg h]
    by_cases h3 : (pp l b).contains a = true
    · rw [if_pos h3]; exact ⟨fun _ => h3, fun _ => rfl⟩
    · rw [if_neg h3]
      refine ⟨fun h2 => ?_, fun h2 => absurd h2 h3⟩
      repeat' split at h2
      all_goals exact absurd h2 (by decide)
theorem relB_nine (e p1 p2 s g1 g2 u1 u2 c A1 A2 k : Bool) (h : relB e p1 p2 s g1 g2 u1 u2 c A1 A2 k = 9) : s = false ∧ A1 = true := by
  cases e with
  | true => exact absurd h (by simp [relB])
  | false =>
    cases p1 with
    | true => exact absurd h (by simp [relB])
    | false =>
      cases p2 with
      | true => exact absurd h (by simp [relB])
      | false =>
        cases s with
        | true => exact absurd h (by simp [relB])
        | false =>
          cases A1 with
          | true => exact ⟨rfl, rfl⟩
          | false => exact absurd h (by cases g1 <;> cases g2 <;> cases u1 <;> cases u2 <;> cases c <;> cases A2 <;> cases k <;> decide)
theorem relB_none (e p1 p2 s g1 g2 u1 u2 c A1 A2 k : Bool) (h : relB e p1 p2 s g1 g2 u1 u2 c A1 A2 k = 12) : e = false ∧ A1 = false ∧ k = false := by
  cases e with
  | true => exact absurd h (by simp [relB])
  | false =>
    cases p1 with
    | true => exact absurd h (by simp [relB])
    | false =>
      cases p2 with
      | true => exact absurd h (by simp [relB])
      | false =>
        cases s with
        | true => exact absurd h (by simp [relB])
        | false =>
          cases A1 with
          | true => exact absurd h (by cases g1 <;> cases g2 <;> cases u1 <;> cases u2 <;> cases c <;> cases A2 <;> cases k <;> decide)
          | false =>
            cases k with
            | true => exact absurd h (by cases g1 <;> cases g2 <;> cases u1 <;> cases u2 <;> cases c <;> cases A2 <;> decide)
            | false => exact ⟨rfl, rfl, rfl⟩
theorem relNo_ancestor (l : List Kn) (a b : Int) (h : relNo l a b = 9) : sib l a b = false ∧ Anc l a b := by
  rw [relNo_B] at h
  obtain ⟨h1, h2⟩ := relB_nine _ _ _ _ _ _ _ _ _ _ _ _ h
  exact ⟨h1, (dec_iff _).1 h2⟩
theorem relNo_none (l : List Kn) (a b : Int) (h : relNo l a b = 12) : a ≠ b ∧ ¬ Anc l a b ∧ comms l a b = [] := by
  rw [relNo_B] at h
  obtain ⟨h1, h2, h3⟩ := relB_none _ _ _ _ _ _ _ _ _ _ _ _ h
  refine ⟨of_decide_eq_false h1, fun h4 => ?_, List.length_eq_zero_iff.1 ?_⟩
  · rw [dec_pos h4] at h2; exact absurd h2 (by decide)
  · have := of_decide_eq_false h3; omega
theorem Wk_anc (l : List Kn) (b x : Int) : (∃ m, Wk (pp l) b x m) ↔ x = b ∨ Anc l x b := by
  constructor
  · rintro ⟨m, h⟩
    induction h with
    | now => exact .inl rfl
    | on hu hk ih =>
      rcases ih with rfl | ih
      · exact .inr (.one hk)
      · exact .inr (.more hk ih)
  · rintro (rfl | h)
    · exact ⟨0, .now⟩
    · induction h with
      | one h => exact ⟨1, .on .now h⟩
      | more h k ih => obtain ⟨m, hm⟩ := ih; exact ⟨m + 1, .on hm h⟩
theorem nbr_sym (l : List Kn) (x y : Int) (hx : 0 ≤ x ∧ x < (l.length : Int)) (h : y ∈ nbr l x) : x ∈ nbr l y := by
  unfold nbr at h ⊢
  rcases List.mem_append.1 h with h | h
  · exact List.mem_append.2 (.inr ((kids_iff l y x).2 ⟨hx, h⟩))
  · exact List.mem_append.2 (.inl ((kids_iff l x y).1 h).2)
end Go.Proofs.YtllihaahppelhaaGreat.Pr
namespace Go.Proofs.YtllihaahppelhaaGreat.Pr
open Go.RowKit Go.Proofs.YtllihaahppelhaaGreat.P Go.Proofs.YtllihaahppelhaaGreatW.PrintWords Go.Proofs.YtllihaahppelhaaGreat.E
/-- How old p was when q was born. -/
def age (l : List Kn) (p q : Int) : Int := (rdK l q).f0 - (rdK l p).f0
theorem age_fam (l : List Kn) (hf : Fam l) (p q : Int) (hq : 0 ≤ q ∧ q < (l.length : Int)) (h : p ∈ pp l q) : 14 ≤ age l p q ∧ age l p q ≤ 3000 := by
  obtain ⟨h2, e2⟩ := rdK_int l q hq.1 hq.2
  have hp := Fam_pp l hf q p hq h
  obtain ⟨h3, e3⟩ := rdK_int l p hp.1 (by omega)
  have hfit := hf.2 _ h2
  have hfp := hf.2 _ h3
  rw [← e2] at hfit
  rw [← e3] at hfp
  obtain ⟨he, h0⟩ := (mem_ps _ _).1 h
  unfold age
  unfold rdK at *
  have hy := hfit.1
  have hy2 := hfp.1
  rcases hfit.2 with ⟨k1, k2⟩ | ⟨k1, k2⟩
  · rcases he with rfl | rfl
    · have : (0 : Int) ≤ -1 := k1 ▸ h0
      omega
    · have : (0 : Int) ≤ -1 := k2 ▸ h0
      omega
  · rcases he with rfl | rfl
    · exact ⟨k1.2.2, by omega⟩
    · rcases k2 with k2 | k2
      · have : (0 : Int) ≤ -1 := k2 ▸ h0
        omega
      · exact ⟨k2.2.2, by omega⟩
/-- What the search has picked out of those that are done. -/
def Yi (l : List Kn) (done : Int → Int → Prop) (a b c : Int) : Prop :=
  (c = -1 ∧ ∀ p q, q ∈ kids l p → ¬ done p q) ∨ (b ∈ kids l a ∧ c = age l a b ∧ ∀ p q, q ∈ kids l p → done p q → c ≤ age l p q)
theorem Yi_mono {l : List Kn} {d d' : Int → Int → Prop} {a b c : Int} (h : Yi l d a b c) (hd : ∀ p q, q ∈ kids l p → d' p q → d p q) : Yi l d' a b c := by
  rcases h with ⟨h1, h2⟩ | ⟨h1, h2, h3⟩
  · exact .inl ⟨h1, fun p q hq h => h2 p q hq (hd p q hq h)⟩
  · exact .inr ⟨h1, h2, fun p q hq h => h3 p q hq (hd p q hq h)⟩
theorem Yi_new {l : List Kn} {d : Int → Int → Prop} {a b c i x : Int} (hk : ∀ p q, q ∈ kids l p → 14 ≤ age l p q) (h : Yi l d a b c) (hx : x ∈ kids l i) (hc : c < 0 ∨ age l i x < c) : Yi l (fun p q => d p q ∨ (p = i ∧ q = x)) i x (age l i x) := by
  refine .inr ⟨hx, rfl, fun p q hq hd => ?_⟩
  rcases hd with hd | ⟨rfl, rfl⟩
  · rcases h with ⟨h1, h2⟩ | ⟨h1, h2, h3⟩
    · exact absurd hd (h2 p q hq)
    · have := hk a b h1
      have := h3 p q hq hd
      omega
  · exact Int.le_refl _
theorem Yi_old {l : List Kn} {d : Int → Int → Prop} {a b c i x : Int} (h : Yi l d a b c) (hc : ¬ c < 0) (hd : ¬ age l i x < c) : Yi l (fun p q => d p q ∨ (p = i ∧ q = x)) a b c := by
  rcases h with ⟨h1, _⟩ | ⟨h1, h2, h3⟩
  · exact absurd (show c < 0 by omega) hc
  · refine .inr ⟨h1, h2, fun p q hq hd => ?_⟩
    rcases hd with hd | ⟨rfl, rfl⟩
    · exact h3 p q hq hd
    · omega
/-- What the search tells. -/
def Yg (l : List Kn) (v : Int × Int × Bool) : Prop := (v.2.2 = false ∧ ∀ p q, ¬ q ∈ kids l p) ∨ (v.2.2 = true ∧ v.2.1 ∈ kids l v.1 ∧ ∀ p q, q ∈ kids l p → age l v.1 v.2.1 ≤ age l p q)
theorem young_l1 (l : List Kn) (hk : ∀ p q, q ∈ kids l p → 14 ≤ age l p q ∧ age l p q ≤ 3000) (i : Nat) (hi : i < l.length) (L : List Int) (hL : L.length ≤ 1000000000) (hLk : L = kids l i) (hv : ∀ p ∈ L, 0 ≤ p ∧ p < (l.length : Int)) (hr : ∀ a b c : Int, Yi l (fun p _ => p < (i : Int) + 1) a b c → ∃ v, Yg l v ∧ Ev (fun k => spec_YoungestParent.l0 k l a b c (l.length : Int) (wrap64 ((i : Int) + 1))) v ∧ Ev (fun k => impl_YoungestParent.l0 k l a b c (l.length : Int) (wrap64 ((i : Int) + 1))) v)
    (n : Nat) : ∀ (j : Nat) (a b c : Int), j ≤ L.length → L.length - j ≤ n → Yi l (fun p q => p < (i : Int) ∨ (p = (i : Int) ∧ ∃ m, m < j ∧ L[m]? = some q)) a b c → ∃ v, Yg l v ∧ Ev (fun k => spec_YoungestParent.l1 k l a b c (i : Int) (l.length : Int) (i : Int) L (L.length : Int) (j : Int)) v ∧ Ev (fun k => impl_YoungestParent.l1 k l a b c (i : Int) (l.length : Int) (i : Int) L (L.length : Int) (j : Int)) v := by
  have stop : ∀ a b c : Int, Yi l (fun p q => p < (i : Int) ∨ (p = (i : Int) ∧ ∃ m, m < L.length ∧ L[m]? = some q)) a b c → ∃ v, Yg l v ∧ Ev (fun k => spec_YoungestParent.l1 k l a b c (i : Int) (l.length : Int) (i : Int) L (L.length : Int) (L.length : Int)) v ∧ Ev (fun k => impl_YoungestParent.l1 k l a b c (i : Int) (l.length : Int) (i : Int) L (L.length : Int) (L.length : Int)) v := by
    intro a b c hY
    obtain ⟨v, hg, e1, e2⟩ := hr a b c (Yi_mono hY fun p q hq hp => by
      by_cases hpi : p < (i : Int)
      · exact .inl hpi
      · obtain rfl : p = (i : Int) := by omega
        rw [← hLk] at hq
        obtain ⟨m, hm, e⟩ := List.mem_iff_getElem.1 hq
        exact .inr ⟨rfl, m, hm, by rw [List.getElem?_eq_getElem hm, e]⟩)
    refine ⟨v, hg, ?_, ?_⟩
    · exact Ev.step (f := fun k => _) (fun k => by rw [spec_YoungestParent.l1]) (ifn (by omega) e1)
    · exact Ev.step (f := fun k => _) (fun k => by rw [impl_YoungestParent.l1]) (ifn (by omega) e2)
  induction n with
  | zero =>
    intro j a b c h1 h2 hY
    obtain rfl : j = L.length := by omega
    exact stop a b c hY
  | succ n ih =>
    intro j a b c h1 h2 hY
    by_cases hj : j < L.length
    · have hp := hv L[j] (List.getElem_mem hj)
      have hxk : L[j] ∈ kids l (i : Int) := by rw [← hLk]; exact List.getElem_mem hj
      have hax := hk _ _ hxk
      have hwr : wrap64 ((rdK l L[j]).f0 - (rdK l i).f0) = age l i L[j] := by show wrap64 (age l i L[j]) = _; exact w64 _ (by omega)
      have hm : ∀ p q, q ∈ kids l p → (p < (i : Int) ∨ (p = (i : Int) ∧ ∃ m, m < j + 1 ∧ L[m]? = some q)) → ((p < (i : Int) ∨ (p = (i : Int) ∧ ∃ m, m < j ∧ L[m]? = some q)) ∨ (p = (i : Int) ∧ q = L[j])) := by
        rintro p q _ (h | ⟨h, m, hm, e⟩)
        · exact .inl (.inl h)
        · by_cases hmj : m < j
          · exact .inl (.inr ⟨h, m, hmj, e⟩)
          · obtain rfl : m = j := by omega
            rw [List.getElem?_eq_getElem hj] at e
            exact .inr ⟨h, (Option.some.inj e).symm⟩
      have key : ∀ (a' b' c' : Int), Yi l (fun p q => p < (i : Int) ∨ (p = (i : Int) ∧ ∃ m, m < j + 1 ∧ L[m]? = some q)) a' b' c' → (∀ k, spec_YoungestParent.l1 (k + 1) l a b c (i : Int) (l.length : Int) (i : Int) L (L.length : Int) (j : Int) = spec_YoungestParent.l1 k l a' b' c' (i : Int) (l.length : Int) (i : Int) L (L.length : Int) ((j + 1 : Nat) : Int)) → (∀ k, impl_YoungestParent.l1 (k + 1) l a b c (i : Int) (l.length : Int) (i : Int) L (L.length : Int) (j : Int) = impl_YoungestParent.l1 k l a' b' c' (i : Int) (l.length : Int) (i : Int) L (L.length : Int) ((j + 1 : Nat) : Int)) →
          ∃ v, Yg l v ∧ Ev (fun k => spec_YoungestParent.l1 k l a b c (i : Int) (l.length : Int) (i : Int) L (L.length : Int) (j : Int)) v ∧ Ev (fun k => impl_YoungestParent.l1 k l a b c (i : Int) (l.length : Int) (i : Int) L (L.length : Int) (j : Int)) v := by
        intro a' b' c' hY' q1 q2
        obtain ⟨v, hg, e1, e2⟩ := ih (j + 1) a' b' c' (by omega) (by omega) hY'
        exact ⟨v, hg, Ev.step q1 e1, Ev.step q2 e2⟩
      by_cases hc : c < 0
      · refine key i L[j] (wrap64 ((rdK l L[j]).f0 - (rdK l i).f0)) (by rw [hwr]; exact Yi_mono (Yi_new (fun p q h => (hk p q h).1) hY hxk (.inl hc)) hm) (fun k => ?_) (fun k => ?_)
        · rw [spec_YoungestParent.l1, if_pos (by omega), if_pos (by omega), if_pos (by omega), rdI L j hj, if_pos hp.1, if_pos hp.2, if_pos (by omega), if_pos (by omega), if_pos hc, w64 ((j : Int) + 1) (by omega)]; rfl
        · rw [impl_YoungestParent.l1, if_pos (by omega), if_pos (by omega), if_pos (by omega), rdI L j hj, if_pos hp.1, if_pos hp.2, if_pos (by omega), if_pos (by omega), if_pos hc, w64 ((j : Int) + 1) (by omega)]; rfl
      · by_cases hd : wrap64 (((rdK l L[j]).f0) - ((rdK l i).f0)) < c
        · refine key i L[j] (wrap64 ((rdK l L[j]).f0 - (rdK l i).f0)) (by rw [hwr]; exact Yi_mono (Yi_new (fun p q h => (hk p q h).1) hY hxk (.inr (hwr ▸ hd))) hm) (fun k => ?_) (fun k => ?_)
          · rw [spec_YoungestParent.l1, if_pos (by omega), if_pos (by omega), if_pos (by omega), rdI L j hj, if_pos hp.1, if_pos hp.2, if_pos (by omega), if_pos (by omega), if_neg hc, if_pos hd, w64 ((j : Int) + 1) (by omega)]; rfl
          · rw [impl_YoungestParent.l1, if_pos (by omega), if_pos (by omega), if_pos (by omega), rdI L j hj, if_pos hp.1, if_pos hp.2, if_pos (by omega), if_pos (by omega), if_neg hc, if_pos hd, w64 ((j : Int) + 1) (by omega)]; rfl
        · refine key a b c (Yi_mono (Yi_old hY hc (hwr ▸ hd)) hm) (fun k => ?_) (fun k => ?_)
          · rw [spec_YoungestParent.l1, if_pos (by omega), if_pos (by omega), if_pos (by omega), rdI L j hj, if_pos hp.1, if_pos hp.2, if_pos (by omega), if_pos (by omega), if_neg hc, if_neg hd, w64 ((j : Int) + 1) (by omega)]; rfl
          · rw [impl_YoungestParent.l1, if_pos (by omega), if_pos (by omega), if_pos (by omega), rdI L j hj, if_pos hp.1, if_pos hp.2, if_pos (by omega), if_pos (by omega), if_neg hc, if_neg hd, w64 ((j : Int) + 1) (by omega)]; rfl
    · obtain rfl : j = L.length := by omega
      exact stop a b c hY
theorem young_l (l : List Kn) (hf : Fam l) (hl : l.length ≤ 1000000000) (n : Nat) : ∀ (i : Nat) (a b c : Int), i ≤ l.length → l.length - i ≤ n → Yi l (fun p _ => p < (i : Int)) a b c → ∃ v, Yg l v ∧ Ev (fun k => spec_YoungestParent.l0 k l a b c (l.length : Int) (i : Int)) v ∧ Ev (fun k => impl_YoungestParent.l0 k l a b c (l.length : Int) (i : Int)) v := by
  have hk : ∀ p q, q ∈ kids l p → 14 ≤ age l p q ∧ age l p q ≤ 3000 := fun p q h => by
    obtain ⟨h1, h2⟩ := (kids_iff l p q).1 h
    exact age_fam l hf p q h1 h2
  have stop : ∀ a b c : Int, Yi l (fun p _ => p < (l.length : Int)) a b c → ∃ v, Yg l v ∧ Ev (fun k => spec_YoungestParent.l0 k l a b c (l.length : Int) (l.length : Int)) v ∧ Ev (fun k => impl_YoungestParent.l0 k l a b c (l.length : Int) (l.length : Int)) v := by
    intro a b c hY
    have hall : ∀ p q, q ∈ kids l p → p < (l.length : Int) := fun p q h => by
      obtain ⟨h1, h2⟩ := (kids_iff l p q).1 h
      have := Fam_pp l hf q p h1 h2
      omega
    refine ⟨(a, b, decide (c ≥ 0)), ?_, ?_, ?_⟩
    · rcases hY with ⟨h1, h2⟩ | ⟨h1, h2, h3⟩
      · exact .inl ⟨decide_eq_false (by omega), fun p q hq => h2 p q hq (hall p q hq)⟩
      · have := hk a b h1
        exact .inr ⟨decide_eq_true (by omega), h1, fun p q hq => by have := h3 p q hq (hall p q hq); show age l a b ≤ _; omega⟩
    · exact Ev.step (f := fun k => _) (fun k => by rw [spec_YoungestParent.l0]) (ifn (by omega) now)
    · exact Ev.step (f := fun k => _) (fun k => by rw [impl_YoungestParent.l0]) (ifn (by omega) now)
  induction n with
  | zero =>
    intro i a b c h1 h2 hY
    obtain rfl : i = l.length := by omega
    exact stop a b c hY
  | succ n ih =>
    intro i a b c h1 h2 hY
    by_cases hi : i < l.length
    · have hr : ∀ a b c : Int, Yi l (fun p _ => p < (i : Int) + 1) a b c → ∃ v, Yg l v ∧ Ev (fun k => spec_YoungestParent.l0 k l a b c (l.length : Int) (wrap64 ((i : Int) + 1))) v ∧ Ev (fun k => impl_YoungestParent.l0 k l a b c (l.length : Int) (wrap64 ((i : Int) + 1))) v := by
        intro a b c hY
        rw [w64 _ (by omega)]
        exact ih (i + 1) a b c (by omega) (by omega) (Yi_mono hY fun p q _ h => by omega)
      obtain ⟨v, hg, e1, e2⟩ := young_l1 l hk i hi (kids l i) (Nat.le_trans (kids_len l i) hl) rfl (kids_mem l i) hr _ 0 a b c (by omega) (Nat.le_refl _) (Yi_mono hY fun p q _ h => by
        rcases h with h | ⟨_, m, hm, _⟩
        · exact h
        · exact absurd hm (Nat.not_lt_zero _))
      refine ⟨v, hg, ?_, ?_⟩
      · exact Ev.step (f := fun k => _) (fun k => by rw [spec_YoungestParent.l0]) (ifp (by omega) (Ev.bind (faChildren l (by omega) i) e1))
      · exact Ev.step (f := fun k => _) (fun k => by rw [impl_YoungestParent.l0]) (ifp (by omega) (Ev.bind (children l (by omega) i) e2))
    · obtain rfl : i = l.length := by omega
      exact stop a b c hY
end Go.Proofs.YtllihaahppelhaaGreat.Pr
namespace Go.Proofs.YtllihaahppelhaaGreat.Pr
open Go.RowKit Go.Proofs.YtllihaahppelhaaGreat.P Go.Proofs.YtllihaahppelhaaGreatW.PrintWords Go.Proofs.YtllihaahppelhaaGreat.E
/-- Are there a family and two of it? -/
noncomputable def both2 (l : List Kn) (a b : Int) : Bool := good l && (inR l a && inR l b)
section
variable {α : Type} {F G : Nat → Option α} {v w : α}
/-- A test of two of a family on both sides, then what holds if they are. -/
theorem two_ev (l : List Kn) (hl : l.length ≤ 1048576) (a b : Int) {A B : Nat → Option α} (hp : both2 l a b = true → Ev A v) (hn : both2 l a b = false → Ev B v) : Ev (fun k => (spec_faTwo.f k l a b).bind fun t => if t = true then A k else B k) v := by
  refine Ev.bind (faTwo l (by omega) a b) ?_
  cases h : both2 l a b with
  | true => exact ifp h (hp h)
  | false => exact ifn (fun h2 => by rw [show both2 l a b = true from h2] at h; exact absurd h (by decide)) (hn h)
theorem two_ev' (l : List Kn) (hl : l.length ≤ 1048576) (a b : Int) {A B : Nat → Option α} (hp : both2 l a b = true → Ev A v) (hn : both2 l a b = false → Ev B v) : Ev (fun k => (impl_hasKin.f k l [a, b]).bind fun t => if t = true then A k else B k) v := by
  have hk := hasKin l (by omega) [a, b]
  rw [allIn2] at hk
  refine Ev.bind hk ?_
  cases h : both2 l a b with
  | true => exact ifp h (hp h)
  | false => exact ifn (fun h2 => by rw [show both2 l a b = true from h2] at h; exact absurd h (by decide)) (hn h)
end
theorem both2_of {l : List Kn} {a b : Int} (h : both2 l a b = true) : Fam l ∧ (0 ≤ a ∧ a < (l.length : Int)) ∧ 0 ≤ b ∧ b < (l.length : Int) := (two_iff l a b).1 h
noncomputable def half (l : List Kn) (a b : Int) : Bool := if a = b then false else decide (((shared l a b).length : Int) = 1)
theorem half_sib (l : List Kn) (a b : Int) (h : half l a b = true) : sib l a b = true := by
  unfold half at h
  unfold sib
  by_cases e : a = b
  · rw [if_pos e] at h; exact absurd h (by decide)
  · rw [if_neg e] at h ⊢
    have := of_decide_eq_true h
    exact decide_eq_true (by omega)
/-- What a test of two returns. -/
noncomputable def vTwo (q : List Kn → Int → Int → Bool) (l : List Kn) (a b : Int) : Bool × Bool := if both2 l a b = true then (q l a b, true) else (false, false)
theorem vTwo_no {q : List Kn → Int → Int → Bool} {l : List Kn} {a b : Int} (h : both2 l a b = false) : vTwo q l a b = (false, false) := by unfold vTwo; rw [h]; rfl
theorem vTwo_yes {q : List Kn → Int → Int → Bool} {l : List Kn} {a b : Int} (h : both2 l a b = true) : vTwo q l a b = (q l a b, true) := by unfold vTwo; rw [h]; rfl
theorem sSib (l : List Kn) (hl : l.length ≤ 1048576) (a b : Int) : Ev (fun k => spec_AreSiblings.f k l a b) (vTwo sib l a b) := by
  unfold spec_AreSiblings.f
  exact two_ev l hl a b (fun h => by obtain ⟨_, ha, hb⟩ := both2_of h; rw [vTwo_yes h]; exact Ev.bind (faSiblings l a b ha hb) now) (fun h => by rw [vTwo_no h]; exact now)
theorem iSib (l : List Kn) (hl : l.length ≤ 1048576) (a b : Int) : Ev (fun k => impl_AreSiblings.f k l a b) (vTwo sib l a b) := by
  unfold impl_AreSiblings.f
  exact two_ev' l hl a b (fun h => by obtain ⟨_, ha, hb⟩ := both2_of h; rw [vTwo_yes h]; exact call (areSiblings l a b ha hb) now) (fun h => by rw [vTwo_no h]; exact now)
theorem sHalf (l : List Kn) (hl : l.length ≤ 1048576) (a b : Int) : Ev (fun k => spec_AreHalf.f k l a b) (vTwo half l a b) := by
  unfold spec_AreHalf.f
  refine two_ev l hl a b (fun h => ?_) (fun h => by rw [vTwo_no h]; exact now)
  obtain ⟨_, ha, hb⟩ := both2_of h
  rw [vTwo_yes h]
  unfold half
  by_cases e : a = b
  · rw [if_pos e]; exact ifp e now
  · rw [if_neg e]; exact ifn e (Ev.bind (faShared l a b ha hb) now)
theorem iHalf (l : List Kn) (hl : l.length ≤ 1048576) (a b : Int) : Ev (fun k => impl_AreHalf.f k l a b) (vTwo half l a b) := by
  unfold impl_AreHalf.f
  refine two_ev' l hl a b (fun h => ?_) (fun h => by rw [vTwo_no h]; exact now)
  obtain ⟨_, ha, hb⟩ := both2_of h
  have hi := inCommon l a b ha hb
  rw [vTwo_yes h]
  unfold half
  by_cases e : a = b
  · rw [if_pos e] at hi ⊢; exact call hi now
  · rw [if_neg e] at hi ⊢; exact call hi now
theorem sCous (l : List Kn) (hl : l.length ≤ 1048576) (a b : Int) : Ev (fun k => spec_AreCousins.f k l a b) (vTwo cous l a b) := by
  unfold spec_AreCousins.f
  exact two_ev l hl a b (fun h => by obtain ⟨hf, ha, hb⟩ := both2_of h; rw [vTwo_yes h]; exact Ev.bind (faCousins l hf a b ha hb) now) (fun h => by rw [vTwo_no h]; exact now)
theorem iCous (l : List Kn) (hl : l.length ≤ 1048576) (a b : Int) : Ev (fun k => impl_AreCousins.f k l a b) (vTwo cous l a b) := by
  unfold impl_AreCousins.f
  exact two_ev' l hl a b (fun h => by obtain ⟨hf, ha, hb⟩ := both2_of h; rw [vTwo_yes h]; exact call (areCousins l hf a b ha hb) now) (fun h => by rw [vTwo_no h]; exact now)
/-- What AgeAtBirth returns. -/
noncomputable def vAge (l : List Kn) (a b : Int) : Int × Bool := if (both2 l a b && (pp l b).contains a) = true then (age l a b, true) else (0, false)
theorem vAge_no {l : List Kn} {a b : Int} (h : (both2 l a b && (pp l b).contains a) = false) : vAge l a b = (0, false) := by unfold vAge; rw [h]; rfl
theorem vAge_yes {l : List Kn} {a b : Int} (h : (both2 l a b && (pp l b).contains a) = true) : vAge l a b = (age l a b, true) := by unfold vAge; rw [h]; rfl
theorem age_wrap {l : List Kn} {a b : Int} (h : both2 l a b = true) (hc : (pp l b).contains a = true) : wrap64 ((rdK l b).f0 - (rdK l a).f0) = age l a b := by
  obtain ⟨hf, ha, hb⟩ := both2_of h
  have := age_fam l hf a b hb (List.contains_iff_mem.1 hc)
  show wrap64 (age l a b) = _
  exact w64 _ (by omega)
theorem sAge (l : List Kn) (hl : l.length ≤ 1048576) (a b : Int) : Ev (fun k => spec_AgeAtBirth.f k l a b) (vAge l a b) := by
  unfold spec_AgeAtBirth.f
  refine two_ev l hl a b (fun h => ?_) (fun h => by rw [vAge_no (by rw [h]; rfl)]; exact now)
  obtain ⟨hf, ha, hb⟩ := both2_of h
  have hh := l1Has a (pp l b) (Nat.le_trans (ps_len _) (by decide))
  refine Ev.bind (faParentsI l b hb) (Ev.bind hh ?_)
  cases hc : (pp l b).contains a with
  | true =>
    rw [vAge_yes (by rw [h, hc]; rfl), ← age_wrap h hc]
    exact ifp rfl (ifp hb.1 (ifp hb.2 (ifp ha.1 (ifp ha.2 now))))
  | false =>
    rw [vAge_no (by rw [h, hc]; rfl)]
    exact ifn (by decide) now
theorem iAge (l : List Kn) (hl : l.length ≤ 1048576) (a b : Int) : Ev (fun k => impl_AgeAtBirth.f k l a b) (vAge l a b) := by
  unfold impl_AgeAtBirth.f
  refine two_ev' l hl a b (fun h => ?_) (fun h => by rw [vAge_no (by rw [h]; rfl)]; exact now)
  obtain ⟨hf, ha, hb⟩ := both2_of h
  refine Ev.bind (isParent l a b hb) ?_
  cases hc : (pp l b).contains a with
  | true =>
    rw [vAge_yes (by rw [h, hc]; rfl), ← age_wrap h hc]
    exact ifp rfl (ifp hb.1 (ifp hb.2 (ifp ha.1 (ifp ha.2 now))))
  | false =>
    rw [vAge_no (by rw [h, hc]; rfl)]
    exact ifn (by decide) now
theorem iKids (l : List Kn) (hf : Fam l) (a : Int) (ha : 0 ≤ a ∧ a < (l.length : Int)) : Ev (fun k => impl_ChildrenOf.f k l a) (kids l a, true) := by
  have h14 := hf.1.2
  have hk := hasKin l (by omega) [a]
  rw [allIn1, (one_iff l a).2 ⟨hf, ha⟩] at hk
  unfold impl_ChildrenOf.f
  exact Ev.bind hk (ifp rfl (Ev.bind (children l (by omega) a) now))
theorem young (l : List Kn) (hl : l.length ≤ 1048576) : ∃ v, Ev (fun k => spec_YoungestParent.f k l) v ∧ Ev (fun k => impl_YoungestParent.f k l) v ∧ ((good l = true ∧ Yg l v) ∨ (good l = false ∧ v = (0, 0, false))) := by
  unfold spec_YoungestParent.f impl_YoungestParent.f
  have hw := faGood l (by omega)
  have hk := isFamily l (by omega)
  cases h : good l with
  | true =>
    rw [h] at hw hk
    obtain ⟨v, hg, e1, e2⟩ := young_l l ((good_iff l).1 h) (by omega) _ 0 0 0 (-1) (by omega) (Nat.le_refl _) (.inl ⟨rfl, fun p q hq hp => by
      obtain ⟨h1, h2⟩ := (kids_iff l p q).1 hq
      have := Fam_pp l ((good_iff l).1 h) q p h1 h2
      omega⟩)
    exact ⟨v, Ev.bind hw (ifp rfl e1), Ev.bind hk (ifp rfl e2), .inl ⟨rfl, hg⟩⟩
  | false =>
    rw [h] at hw hk
    exact ⟨(0, 0, false), Ev.bind hw (ifn (by simp) now), Ev.bind hk (ifn (by simp) now), .inr ⟨rfl, rfl⟩⟩
end Go.Proofs.YtllihaahppelhaaGreat.Pr
namespace Go.Proofs.YtllihaahppelhaaGreat.Pr
open Go.RowKit Go.Proofs.YtllihaahppelhaaGreat.P Go.Proofs.YtllihaahppelhaaGreatW.PrintWords Go.Proofs.YtllihaahppelhaaGreat.E
theorem most_eq (a b : Int) : spec_l1Most.f a b = some (max a b) := by
  unfold spec_l1Most.f
  by_cases h : a > b
  · rw [if_pos h, show max a b = a by omega]
  · rw [if_neg h, show max a b = b by omega]
end Go.Proofs.YtllihaahppelhaaGreat.Pr
namespace Go.Proofs.YtllihaahppelhaaGreat.Pr
open Go.RowKit Go.Proofs.YtllihaahppelhaaGreat.P Go.Proofs.YtllihaahppelhaaGreatW.PrintWords Go.Proofs.YtllihaahppelhaaGreatW.PrintMore Go.Proofs.YtllihaahppelhaaGreat.E
def Bytes (l : List Int) : Prop := ∀ x ∈ l, 0 ≤ x ∧ x ≤ 255
theorem and255 (E : Int) (h0 : 0 ≤ E) (h1 : E ≤ 18446744073709551615) : 0 ≤ Go.bits .and .u64 E 255 ∧ Go.bits .and .u64 E 255 ≤ 255 := by
  have h := bits_and_u64_nat E.toNat 255 (by omega) (by omega)
  rw [Int.toNat_of_nonneg h0] at h
  rw [show ((255 : Nat) : Int) = 255 from rfl] at h
  rw [h]
  have : E.toNat &&& 255 ≤ 255 := Nat.and_le_right
  omega
theorem u64_bd (x : Int) : 0 ≤ IntKind.u64.wrap x ∧ IntKind.u64.wrap x ≤ 18446744073709551615 := by
  have : IntKind.u64.wrap x = x % 18446744073709551616 := by simp [IntKind.wrap, IntKind.bits, IntKind.signed]
  omega
theorem next_some (l : List Int) (hl : Bytes l) (a s : Int) (h0 : 0 ≤ a) (h1 : a ≤ 1000000) : ∃ v s', spec_l1Cur_next.f l a s = some (v, a + 1, s') ∧ 0 ≤ v ∧ v ≤ 255 := by
  unfold spec_l1Cur_next.f
  have ew : wrap64 (a + 1) = a + 1 := w64 _ (by omega)
  rw [ew]
  by_cases h : a < (l.length : Int)
  · rw [if_pos h, if_pos h0, if_pos (by omega)]
    obtain ⟨i, rfl⟩ := Int.eq_ofNat_of_zero_le h0
    have hm : rd l (i : Int) ∈ l := by
      have : rd l (i : Int) = l[i]'(by omega) := by simp [rd, List.getD_eq_getElem?_getD, List.getElem?_eq_getElem (show i < l.length by omega)]
      rw [this]
      exact List.getElem_mem _
    have hb := hl _ hm
    refine ⟨_, _, rfl, ?_⟩
    rw [w64 _ (by omega)]
    exact hb
  · rw [if_neg h, if_neg (by omega)]
    have hb := u64_bd ((IntKind.u64.wrap (IntKind.u64.wrap (s * 6364136223846793005))) + 1442695040888963407)
    generalize IntKind.u64.wrap ((IntKind.u64.wrap (IntKind.u64.wrap (s * 6364136223846793005))) + 1442695040888963407) = E at hb ⊢
    have ha := and255 (E / 1099511627776) (by omega) (by omega)
    refine ⟨_, _, rfl, ?_⟩
    rw [w64 _ (by omega)]
    exact ha
theorem pick_some (l : List Int) (hl : Bytes l) (a s n : Int) (h0 : 0 ≤ a) (h1 : a ≤ 1000000) (hn : 1 ≤ n) (hn2 : n ≤ 200) : ∃ v a' s', spec_l1Cur_pick.f l a s n = some (v, a', s') ∧ (0 ≤ v ∧ v < n) ∧ a ≤ a' ∧ a' ≤ a + 1 := by
  unfold spec_l1Cur_pick.f
  by_cases h : n ≤ 1
  · rw [if_pos h]
    exact ⟨0, a, s, rfl, by omega, by omega, by omega⟩
  · rw [if_neg h]
    obtain ⟨v, s', e, hv⟩ := next_some l hl a s h0 h1
    rw [e, Option.bind_some, if_neg (by omega), if_neg (by omega)]
    refine ⟨_, _, _, rfl, ?_, by first | omega | (dsimp only; omega), by first | omega | (dsimp only; omega)⟩
    dsimp only
    rw [Int.tmod_eq_emod_of_nonneg hv.1]
    exact ⟨Int.emod_nonneg _ (by omega), Int.emod_lt_of_pos _ (by omega)⟩
theorem among_some (l : List Int) (hl : Bytes l) (a s : Int) (xs : List Int) (h0 : 0 ≤ a) (h1 : a ≤ 1000000) (hx : 1 ≤ xs.length) (hx2 : xs.length ≤ 200) : ∃ v a' s', spec_l1Cur_among.f l a s xs = some (v, a', s') ∧ a ≤ a' ∧ a' ≤ a + 1 := by
  unfold spec_l1Cur_among.f
  obtain ⟨v, a', s', e, hv, ha⟩ := pick_some l hl a s (xs.length : Int) h0 h1 (by omega) (by omega)
  rw [e, Option.bind_some, if_pos hv.1, if_pos hv.2]
  exact ⟨_, _, _, rfl, ha.1, ha.2⟩
theorem one_some (l : List Int) (hl : Bytes l) (a s n : Int) (h0 : 0 ≤ a) (h1 : a ≤ 1000000) (hn : 1 ≤ n) (hn2 : n ≤ 200) : ∃ v a' s', spec_l1Cur_one.f l a s n = some (v, a', s') ∧ a ≤ a' ∧ a' ≤ a + 1 := by
  unfold spec_l1Cur_one.f
  obtain ⟨v, a', s', e, hv, ha⟩ := pick_some l hl a s n h0 h1 hn hn2
  rw [e, Option.bind_some]
  exact ⟨_, _, _, rfl, ha.1, ha.2⟩
/-- One more of a family, drawn. -/
theorem sure_j (l : List Int) (hl : Bytes l) (x : List Kn) (c : Int) (b : Bool) (a s k0 k1 k2 : Int) (hb : b = true → 1 ≤ x.length) (hx : x.length ≤ 100) (h0 : 0 ≤ a) (h1 : a ≤ 1000)
    (hr : ∀ (kn : Kn) (a' s' : Int), a ≤ a' → a' ≤ a + 4 → ∃ v a2 s2, Ev (fun k => spec_l1Cur_sureFamily.l0 k (x ++ [kn]) (wrap64 (c - 1)) l a' s') (v, a2, s2) ∧ v.length ≤ 20 ∧ 0 ≤ a2 ∧ a2 ≤ 1000) :
    ∃ v a2 s2, Ev (fun k => spec_l1Cur_sureFamily.j1 k x c b l a s k0 k1 k2) (v, a2, s2) ∧ v.length ≤ 20 ∧ 0 ≤ a2 ∧ a2 ≤ 1000 := by
  cases b with
  | false =>
    obtain ⟨v, a', s', h, hv⟩ := hr ⟨k0, k1, k2⟩ a s (Int.le_refl _) (by omega)
    exact ⟨v, a', s', Ev.step (f := fun k => _) (fun k => by rw [spec_l1Cur_sureFamily.j1]) (ifn (by simp) (ifp (by omega) h)), hv⟩
  | true =>
    have hx1 := hb rfl
    obtain ⟨p, a1, s1, e1, hp, h2, h3⟩ := pick_some l hl a s (x.length : Int) h0 (by omega) (by omega) (by omega)
    obtain ⟨q, a2, s2, e2, hq, h4, h5⟩ := pick_some l hl a1 s1 20 (by omega) (by omega) (by omega) (by omega)
    obtain ⟨o, a3, s3, e3, ho, h6, h7⟩ := pick_some l hl a2 s2 (x.length : Int) (by omega) (by omega) (by omega) (by omega)
    by_cases hg : o > p
    · obtain ⟨w, a4, s4, e4, h8, h9⟩ := one_some l hl a3 s3 5 (by omega) (by omega) (by omega) (by omega)
      cases w with
      | true =>
        obtain ⟨v, a', s', h, hv⟩ := hr ⟨wrap64 ((wrap64 (((rdK x p).f0) + 14)) + q), p, k2⟩ a4 s4 (by omega) (by omega)
        exact ⟨v, a', s', Ev.step (f := fun k => _) (fun k => by rw [spec_l1Cur_sureFamily.j1]) (ifp rfl (call e1 (ifp hp.1 (ifp hp.2 (call e2 (call e3 (ifp hg (call e4 (ifp rfl (ifp (c := x.length < 5864062014805) (by omega) h)))))))))), hv⟩
      | false =>
        obtain ⟨v, a', s', h, hv⟩ := hr ⟨max (wrap64 ((wrap64 (((rdK x p).f0) + 14)) + q)) (wrap64 (((rdK x o).f0) + 14)), p, o⟩ a4 s4 (by omega) (by omega)
        exact ⟨v, a', s', Ev.step (f := fun k => _) (fun k => by rw [spec_l1Cur_sureFamily.j1]) (ifp rfl (call e1 (ifp hp.1 (ifp hp.2 (call e2 (call e3 (ifp hg (call e4 (ifn (c := (false : Bool) = true) (by decide) (ifp ho.1 (ifp ho.2 (call (most_eq _ _) (ifp (c := x.length < 5864062014805) (by omega) h))))))))))))), hv⟩
    · obtain ⟨v, a', s', h, hv⟩ := hr ⟨wrap64 ((wrap64 (((rdK x p).f0) + 14)) + q), p, k2⟩ a3 s3 (by omega) (by omega)
      exact ⟨v, a', s', Ev.step (f := fun k => _) (fun k => by rw [spec_l1Cur_sureFamily.j1]) (ifp rfl (call e1 (ifp hp.1 (ifp hp.2 (call e2 (call e3 (ifn hg (ifp (c := x.length < 5864062014805) (by omega) h)))))))), hv⟩
theorem sure_l (l : List Int) (hl : Bytes l) (m : Nat) : ∀ (x : List Kn) (c a s : Int), c ≤ (m : Int) → 0 ≤ a → a + 10 * (m : Int) ≤ 900 → x.length + m ≤ 20 → ∃ v a2 s2, Ev (fun k => spec_l1Cur_sureFamily.l0 k x c l a s) (v, a2, s2) ∧ v.length ≤ 20 ∧ 0 ≤ a2 ∧ a2 ≤ 1000 := by
  induction m with
  | zero =>
    intro x c a s h1 h2 h3 h4
    exact ⟨x, a, s, Ev.step (f := fun k => _) (fun k => by rw [spec_l1Cur_sureFamily.l0]) (ifn (by omega) now), by omega, by omega, by omega⟩
  | succ m ih =>
    intro x c a s h1 h2 h3 h4
    by_cases hc : c > 0
    · obtain ⟨p, a1, s1, e1, hp, h5, h6⟩ := pick_some l hl a s 12 h2 (by omega) (by omega) (by omega)
      have hw : wrap64 (c - 1) ≤ (m : Int) := by unfold wrap64; omega
      by_cases hz : (x.length : Int) > 0
      · obtain ⟨w, a2, s2, e2, h7, h8⟩ := one_some l hl a1 s1 4 (by omega) (by omega) (by omega) (by omega)
        obtain ⟨v, a', s', h, hv⟩ := sure_j l hl x c (!w) a2 s2 (wrap64 (1900 + p)) (-1) (-1) (fun _ => by omega) (by omega) (by omega) (by omega) (fun kn a' s' k1 k2 => ih (x ++ [kn]) _ a' s' hw (by omega) (by omega) (by simp; omega))
        exact ⟨v, a', s', Ev.step (f := fun k => _) (fun k => by rw [spec_l1Cur_sureFamily.l0]) (ifp hc (call e1 (ifp hz (call e2 h)))), hv⟩
      · obtain ⟨v, a', s', h, hv⟩ := sure_j l hl x c false a1 s1 (wrap64 (1900 + p)) (-1) (-1) (fun h => absurd h (by decide)) (by omega) (by omega) (by omega) (fun kn a' s' k1 k2 => ih (x ++ [kn]) _ a' s' hw (by omega) (by omega) (by simp; omega))
        exact ⟨v, a', s', Ev.step (f := fun k => _) (fun k => by rw [spec_l1Cur_sureFamily.l0]) (ifp hc (call e1 (ifn hz h))), hv⟩
    · exact ⟨x, a, s, Ev.step (f := fun k => _) (fun k => by rw [spec_l1Cur_sureFamily.l0]) (ifn hc now), by omega, by omega, by omega⟩
theorem sure_some (l : List Int) (hl : Bytes l) : ∃ v a2 s2, Ev (fun k => spec_l1Cur_sureFamily.f k l 0 0) (v, a2, s2) ∧ v.length ≤ 20 ∧ 0 ≤ a2 ∧ a2 ≤ 1000 := by
  unfold spec_l1Cur_sureFamily.f
  obtain ⟨p, a1, s1, e1, hp, h5, h6⟩ := pick_some l hl 0 0 9 (by omega) (by omega) (by omega) (by omega)
  obtain ⟨v, a', s', h, hv⟩ := sure_l l hl 9 [] (wrap64 (1 + p)) a1 s1 (by unfold wrap64; omega) (by omega) (by omega) (by simp)
  exact ⟨v, a', s', call e1 h, hv⟩
theorem kin_some (l : List Int) (hl : Bytes l) (a s : Int) (h0 : 0 ≤ a) (h1 : a ≤ 2000) : ∃ x y z a' s', spec_l1Cur_kin.f l a s = some (x, y, z, a', s') ∧ a ≤ a' ∧ a' ≤ a + 3 := by
  unfold spec_l1Cur_kin.f
  obtain ⟨x, a1, s1, e1, h2, h3⟩ := among_some l hl a s [(-1), 0, 1930, 1950, 3000, 3001, 4611686018427387904] (by omega) (by omega) (by decide) (by decide)
  obtain ⟨y, a2, s2, e2, h4, h5⟩ := among_some l hl a1 s1 [(-2), (-1), 0, 0, 1, 2, 14] (by omega) (by omega) (by decide) (by decide)
  obtain ⟨z, a3, s3, e3, h6, h7⟩ := among_some l hl a2 s2 [(-2), (-1), (-1), 1, 2, 3, 14, 4611686018427387904] (by omega) (by omega) (by decide) (by decide)
  rw [e1, Option.bind_some]
  dsimp only
  rw [e2, Option.bind_some]
  dsimp only
  rw [e3, Option.bind_some]
  exact ⟨x, y, z, a3, s3, rfl, by omega, by omega⟩
theorem fam_l (l : List Int) (hl : Bytes l) (m : Nat) : ∀ (x : List Kn) (a s : Int), 15 ≤ x.length + m → x.length ≤ 40 → 0 ≤ a → a + (m : Int) ≤ 2000 → ∃ v a2 s2, Ev (fun k => spec_l1Cur_family.l0 k x l a s) (v, a2, s2) ∧ v.length ≤ 40 ∧ 0 ≤ a2 ∧ a2 ≤ 3000 := by
  induction m with
  | zero =>
    intro x a s h1 h2 h3 h4
    obtain ⟨p, a1, s1, e1, hp, h5, h6⟩ := pick_some l hl a s 2 h3 (by omega) (by omega) (by omega)
    exact ⟨x, a1, s1, Ev.step (f := fun k => _) (fun k => by rw [spec_l1Cur_family.l0]) (call e1 (ifn (c := (x.length : Int) < wrap64 (14 + p)) (by rw [w64 _ (by omega)]; omega) now)), by omega, by omega, by omega⟩
  | succ m ih =>
    intro x a s h1 h2 h3 h4
    obtain ⟨p, a1, s1, e1, hp, h5, h6⟩ := pick_some l hl a s 2 h3 (by omega) (by omega) (by omega)
    by_cases hc : (x.length : Int) < wrap64 (14 + p)
    · rw [w64 _ (by omega)] at hc
      obtain ⟨v, a', s', h, hv⟩ := ih (x ++ [⟨1980, (-1), (-1)⟩]) a1 s1 (by simp; omega) (by simp; omega) (by omega) (by omega)
      exact ⟨v, a', s', Ev.step (f := fun k => _) (fun k => by rw [spec_l1Cur_family.l0]) (call e1 (ifp (c := (x.length : Int) < wrap64 (14 + p)) (by rw [w64 _ (by omega)]; exact hc) (ifp (c := x.length < 5864062014805) (by omega) h))), hv⟩
    · exact ⟨x, a1, s1, Ev.step (f := fun k => _) (fun k => by rw [spec_l1Cur_family.l0]) (call e1 (ifn hc now)), by omega, by omega, by omega⟩
theorem family_some (l : List Int) (hl : Bytes l) : ∃ v a2 s2, Ev (fun k => spec_l1Cur_family.f k l 0 0) (v, a2, s2) ∧ v.length ≤ 40 ∧ 0 ≤ a2 ∧ a2 ≤ 3000 := by
  unfold spec_l1Cur_family.f
  obtain ⟨v, a1, s1, e1, hv, h1, h2⟩ := sure_some l hl
  obtain ⟨p, a2, s2, e2, hp, h3, h4⟩ := pick_some l hl a1 s1 18 (by omega) (by omega) (by omega) (by omega)
  by_cases c0 : p = 0
  · exact ⟨[], a2, s2, Ev.bind e1 (call e2 (ifp c0 now)), by simp, by omega, by omega⟩
  by_cases c1 : p = 1
  · obtain ⟨x, y, z, a3, s3, e3, h5, h6⟩ := kin_some l hl a2 s2 (by omega) (by omega)
    exact ⟨v ++ [⟨x, y, z⟩], a3, s3, Ev.bind e1 (call e2 (ifn c0 (ifp c1 (call e3 (ifp (c := v.length < 5864062014805) (by omega) now))))), by simp; omega, by omega, by omega⟩
  by_cases c2 : p = 2
  · obtain ⟨v', a', s', h, hv'⟩ := fam_l l hl 15 v a2 s2 (by omega) (by omega) (by omega) (by omega)
    exact ⟨v', a', s', Ev.bind e1 (call e2 (ifn c0 (ifn c1 (ifp c2 h)))), hv'⟩
  · exact ⟨v, a2, s2, Ev.bind e1 (call e2 (ifn c0 (ifn c1 (ifn c2 now)))), by omega, by omega, by omega⟩
theorem drawCommon (l : List Int) (hl : Bytes l) : ∃ v a b, Ev (fun k => spec_DrawCommonAncestors.f k l) (v, a, b) ∧ v.length ≤ 40 := by
  unfold spec_DrawCommonAncestors.f
  obtain ⟨v, a1, s1, e1, hv, h1, h2⟩ := family_some l hl
  have hw : wrap64 ((v.length : Int) + 1) = (v.length : Int) + 1 := w64 _ (by omega)
  obtain ⟨p, a2, s2, e2, hp, h3, h4⟩ := pick_some l hl a1 s1 (wrap64 ((v.length : Int) + 1)) (by omega) (by omega) (by omega) (by omega)
  obtain ⟨q, a3, s3, e3, hq, h5, h6⟩ := pick_some l hl a2 s2 9 (by omega) (by omega) (by omega) (by omega)
  obtain ⟨o, a4, s4, e4, ho, h7, h8⟩ := pick_some l hl a3 s3 (wrap64 ((v.length : Int) + 1)) (by omega) (by omega) (by omega) (by omega)
  exact ⟨v, _, o, Ev.bind e1 (call e2 (call e3 (call e4 now))), hv⟩
theorem drawRelation (l : List Int) (hl : Bytes l) : ∃ v a b, Ev (fun k => spec_DrawRelationOf.f k l) (v, a, b) ∧ v.length ≤ 40 := by
  obtain ⟨v, a, b, h, hv⟩ := drawCommon l hl
  unfold spec_DrawRelationOf.f
  exact ⟨v, a, b, Ev.bind h now, hv⟩
theorem drawAge (l : List Int) (hl : Bytes l) : ∃ v a b, Ev (fun k => spec_DrawAgeAtBirth.f k l) (v, a, b) ∧ v.length ≤ 40 := by
  obtain ⟨v, a, b, h, hv⟩ := drawCommon l hl
  unfold spec_DrawAgeAtBirth.f
  exact ⟨v, a, b, Ev.bind h now, hv⟩
end Go.Proofs.YtllihaahppelhaaGreat.Pr
namespace Go.Proofs.YtllihaahppelhaaGreat.Pr
open Go.RowKit Go.Proofs.YtllihaahppelhaaGreat.P Go.Proofs.YtllihaahppelhaaGreatW.PrintWords Go.Proofs.YtllihaahppelhaaGreat.E
theorem gSame_l (l : List Int) (hl : l.length ≤ 1048576) (n : Nat) : ∀ i : Nat, i ≤ l.length → l.length - i ≤ n → Ev (fun k => laws_qSame.l0 k l l (l.length : Int) (i : Int)) true := by
  induction n with
  | zero =>
    intro i h1 h2
    exact Ev.step (f := fun k => _) (fun k => by rw [laws_qSame.l0]) (ifn (by omega) now)
  | succ n ih =>
    intro i h1 h2
    by_cases hi : i < l.length
    · refine Ev.step (f := fun k => _) (fun k => by rw [laws_qSame.l0]) (ifp (by omega) (ifp (by omega) (ifp (by omega) (ifp (by omega) (ifp rfl ?_)))))
      rw [w64 _ (by omega)]
      exact ih (i + 1) (by omega) (by omega)
    · exact Ev.step (f := fun k => _) (fun k => by rw [laws_qSame.l0]) (ifn (by omega) now)
theorem gSame (l : List Int) (hl : l.length ≤ 1048576) : Ev (fun k => laws_qSame.f k l l) true := by
  unfold laws_qSame.f
  exact ifp rfl (gSame_l l hl _ 0 (by omega) (Nat.le_refl _))
theorem gRises_l (l : List Int) (hl : l.length ≤ 1048576) (hp : l.Pairwise (· < ·)) (n : Nat) : ∀ i : Nat, 1 ≤ i → l.length - i ≤ n → i ≤ l.length + 1 → Ev (fun k => laws_qRises.l0 k l (i : Int)) true := by
  induction n with
  | zero =>
    intro i h1 h2 h3
    exact Ev.step (f := fun k => _) (fun k => by rw [laws_qRises.l0]) (ifn (by omega) now)
  | succ n ih =>
    intro i h1 h2 h3
    by_cases hi : i < l.length
    · have hlt := List.pairwise_iff_getElem.1 hp (i - 1) i (by omega) hi (by omega)
      have ei : (i : Int) - 1 = ((i - 1 : Nat) : Int) := by omega
      refine Ev.step (f := fun k => _) (fun k => by rw [laws_qRises.l0]) (ifp (by omega) ?_)
      rw [w64 ((i : Int) - 1) (by omega), ei]
      refine ifp (by omega) (ifp (by omega) (ifp (by omega) ?_))
      rw [rdI l (i - 1) (by omega), rdI l i hi]
      refine ifn (by omega) ?_
      rw [w64 _ (by omega)]
      exact ih (i + 1) (by omega) (by omega) (by omega)
    · exact Ev.step (f := fun k => _) (fun k => by rw [laws_qRises.l0]) (ifn (by omega) now)
theorem gRises (l : List Int) (hl : l.length ≤ 1048576) (hp : l.Pairwise (· < ·)) : Ev (fun k => laws_qRises.f k l) true := by
  unfold laws_qRises.f
  exact gRises_l l hl hp l.length 1 (by omega) (by omega) (by omega)
theorem gHas_l (l : List Int) (v : Int) (hl : l.length ≤ 1048576) (n : Nat) : ∀ i : Nat, i ≤ l.length → l.length - i ≤ n → Ev (fun k => laws_qHas.l0 k v l (l.length : Int) (i : Int)) (decide (v ∈ l.drop i)) := by
  have stop : ∀ i, i = l.length → Ev (fun k => laws_qHas.l0 k v l (l.length : Int) (i : Int)) (decide (v ∈ l.drop i)) := by
    rintro i rfl
    refine Ev.step (f := fun k => _) (fun k => by rw [laws_qHas.l0]) (ifn (by omega) (evEq now ?_))
    simp
  induction n with
  | zero =>
    intro i h1 h2
    exact stop i (by omega)
  | succ n ih =>
    intro i h1 h2
    by_cases hi : i < l.length
    · refine Ev.step (f := fun k => _) (fun k => by rw [laws_qHas.l0]) (ifp (by omega) (ifp (by omega) (ifp (by omega) ?_)))
      rw [rdI l i hi]
      by_cases h : l[i] = v
      · refine ifp h (evEq now ?_)
        rw [List.drop_eq_getElem_cons hi]
        simp [h]
      · refine ifn h ?_
        rw [w64 _ (by omega)]
        refine evEq (ih (i + 1) (by omega) (by omega)) ?_
        rw [List.drop_eq_getElem_cons hi]
        have h' : ¬ v = l[i] := fun e => h e.symm
        simp only [List.mem_cons, h', false_or]
    · exact stop i (by omega)
theorem gHas (l : List Int) (v : Int) (hl : l.length ≤ 1048576) : Ev (fun k => laws_qHas.f k l v) (decide (v ∈ l)) := by
  unfold laws_qHas.f
  exact gHas_l l v hl _ 0 (by omega) (Nat.le_refl _)
end Go.Proofs.YtllihaahppelhaaGreat.Pr
namespace Go.Proofs.YtllihaahppelhaaGreat.Pr
open Go.RowKit Go.Proofs.YtllihaahppelhaaGreat.P Go.Proofs.YtllihaahppelhaaGreatW.PrintWords Go.Proofs.YtllihaahppelhaaGreat.E
/-- Values are less than there are in the queue. -/
def Low (out qu : List Int) : Prop := ∀ x ∈ qu, rd out x + 1 ≤ (qu.length : Int)
theorem inn_ok (N : Int → List Int) (s : Int) (n : Nat) (hn : n ≤ 1000) (i : Nat) (q : Int) (ks : List Int) : ∀ (out qu : List Int), Bfs N s n out qu i → Low out qu → i < qu.length → rd qu (i : Int) = q → (∀ y ∈ ks, y ∈ N q ∧ 0 ≤ y ∧ y < (n : Int)) →
    ∃ o2 q2, impl_steps.inn (i : Int) ks out qu = some (o2, q2) ∧ Bfs N s n o2 q2 i ∧ Low o2 q2 ∧ i < q2.length ∧ rd q2 (i : Int) = q ∧ (∀ y ∈ qu, y ∈ q2) ∧ ∀ y ∈ ks, y ∈ q2 := by
  induction ks with
  | nil => intro out qu h hl hi hq _; exact ⟨out, qu, rfl, h, hl, hi, hq, fun _ h => h, fun y hy => by cases hy⟩
  | cons y ks ih =>
    intro out qu h hl hi hq hks
    obtain ⟨hyN, hy0, hy1⟩ := hks y (List.mem_cons_self ..)
    have hks' : ∀ z ∈ ks, z ∈ N q ∧ 0 ≤ z ∧ z < (n : Int) := fun z hz => hks z (List.mem_cons_of_mem _ hz)
    have hlen := h.len
    have hfew := h.few_
    have hqm := rd_mem qu i hi
    rw [hq] at hqm
    have hqr := h.qr q hqm
    simp only [impl_steps.inn]
    rw [if_pos ⟨hy0, by omega⟩]
    by_cases hneg : rd out y < 0
    · obtain ⟨m, hm, _⟩ : ∃ m : Nat, rd out q = m ∧ Wk N s q m := by
        rcases h.val q hqr.1 hqr.2 with ⟨_, h2⟩ | ⟨_, h2⟩
        · exact absurd hqm h2
        · exact h2
      have hlq := hl q hqm
      rw [if_pos hneg, if_pos ⟨by rw [hq]; omega, by rw [hq]; omega, by omega⟩, hq]
      have hp := h.push hi y ⟨hy0, hy1⟩ hneg (by rw [hq]; exact hyN)
      rw [hq] at hp
      have hyq : y ∉ qu := by
        intro hy2
        rcases h.val y hy0 hy1 with ⟨_, h2⟩ | ⟨_, m2, h2, _⟩
        · exact h2 hy2
        · omega
      have hl2 : Low (out.set y.toNat (rd out q + 1)) (qu ++ [y]) := by
        intro x hx
        rw [List.length_append, List.length_singleton]
        rcases List.mem_append.1 hx with hx | hx
        · have h3 := hl x hx
          rw [rd_set_ne _ _ _ _ ⟨hy0, (h.qr x hx).1, fun e => hyq (e ▸ hx)⟩]
          omega
        · rw [List.mem_singleton.1 hx, rd_set_same _ _ _ ⟨hy0, by omega⟩]
          omega
      obtain ⟨o2, q2, e, h4, h5, h6, h7, h8, h9⟩ := ih _ _ hp hl2 (by rw [List.length_append]; omega) (by rw [rd_app qu y i hi]; exact hq) hks'
      refine ⟨o2, q2, e, h4, h5, h6, h7, fun z hz => h8 z (List.mem_append_left _ hz), fun z hz => ?_⟩
      rcases List.mem_cons.1 hz with rfl | hz
      · exact h8 _ (List.mem_append_right _ (by simp))
      · exact h9 z hz
    · rw [if_neg hneg]
      obtain ⟨o2, q2, e, h4, h5, h6, h7, h8, h9⟩ := ih out qu h hl hi hq hks'
      refine ⟨o2, q2, e, h4, h5, h6, h7, h8, fun z hz => ?_⟩
      rcases List.mem_cons.1 hz with rfl | hz
      · rcases h.val z hy0 hy1 with ⟨h2, _⟩ | ⟨h2, _⟩
        · omega
        · exact h8 z h2
      · exact h9 z hz
theorem lp_ok (nx : Int → Option (List Int)) (N : Int → List Int) (s : Int) (n : Nat) (hn : n ≤ 1000) (hN : ∀ x, 0 ≤ x → x < (n : Int) → nx x = some (N x) ∧ ∀ y ∈ N x, 0 ≤ y ∧ y < (n : Int)) (f : Nat) : ∀ (out qu : List Int) (i : Nat), Bfs N s n out qu i → Low out qu → i ≤ qu.length → n + 1 - i ≤ f →
    ∃ far, impl_steps.lp nx f out qu i = some far ∧ far.length = n ∧ ∀ x, 0 ≤ x ∧ x < (n : Int) → Least N s x (rd far x) := by
  induction f with
  | zero => intro out qu i h _ hi hf; have := h.few_; omega
  | succ f ih =>
    intro out qu i h hl hi hf
    have hfew := h.few_
    rw [impl_steps.lp]
    by_cases hlt : i < qu.length
    · have hqr := h.qr _ (rd_mem qu i hlt)
      obtain ⟨h1, h2⟩ := hN _ hqr.1 hqr.2
      obtain ⟨o2, q2, e, h4, h5, h6, h7, _, h9⟩ := inn_ok N s n hn i _ (N (rd qu (i : Int))) out qu h hl hlt rfl (fun y hy => ⟨hy, h2 y hy⟩)
      rw [if_pos hlt, h1, Option.bind_some, e, Option.bind_some]
      exact ih o2 q2 (i + 1) (h4.next h6 (by rw [h7]; exact h9)) h5 (by omega) (by omega)
    · rw [if_neg hlt]
      exact ⟨out, rfl, h.len, fun x hx => h.done (by omega) x hx⟩
theorem steps_ok (nx : Int → Option (List Int)) (N : Int → List Int) (s : Int) (n : Nat) (h1 : 1 ≤ n) (hn : n ≤ 1000) (hs : 0 ≤ s ∧ s < (n : Int)) (hN : ∀ x, 0 ≤ x → x < (n : Int) → nx x = some (N x) ∧ ∀ y ∈ N x, 0 ≤ y ∧ y < (n : Int)) (f : Nat) (hf : n + 1 ≤ f) :
    ∃ far, impl_steps.g nx f n s = some far ∧ far.length = n ∧ ∀ x, 0 ≤ x ∧ x < (n : Int) → Least N s x (rd far x) := by
  unfold impl_steps.g
  rw [if_pos ⟨⟨h1, hn⟩, hs⟩]
  refine lp_ok nx N s n hn hN f _ _ 0 (Bfs.start N s n hs) ?_ (by simp) (by omega)
  intro x hx
  rw [List.mem_singleton.1 hx, rd_set_same _ _ _ (by simpa using hs)]
  simp
/-- The tables are one. -/
theorem far_one (N : Int → List Int) (s : Int) (n : Nat) (a b : List Int) (ha : a.length = n) (hb : b.length = n) (h1 : ∀ x, 0 ≤ x ∧ x < (n : Int) → Least N s x (rd a x)) (h2 : ∀ x, 0 ≤ x ∧ x < (n : Int) → Least N s x (rd b x)) : a = b := by
  apply List.ext_getElem (by omega)
  intro i h3 h4
  have h5 := Least_one N s (i : Int) _ _ (h1 i (by omega)) (h2 i (by omega))
  rw [rdI a i h3, rdI b i h4] at h5
  exact h5
/-- From some number of rounds on, for each of a few. -/
theorem Ev_few {α : Type} (g : Nat → Int → Option α) (r : Int → α) (n : Nat) (h : ∀ x : Int, 0 ≤ x → x < (n : Int) → Ev (fun k => g k x) (r x)) : ∃ K, ∀ k, K ≤ k → ∀ x : Int, 0 ≤ x → x < (n : Int) → g k x = some (r x) := by
  induction n with
  | zero => exact ⟨0, fun _ _ x h0 h1 => by omega⟩
  | succ n ih =>
    obtain ⟨K, hK⟩ := ih (fun x h0 h1 => h x h0 (by omega))
    obtain ⟨K', hK'⟩ := h (n : Int) (by omega) (by omega)
    refine ⟨max K K', fun k hk x h0 h1 => ?_⟩
    by_cases e : x = (n : Int)
    · subst e; exact hK' k (by omega)
    · exact hK k (by omega) x h0 (by omega)
theorem steps_ev (nx : Nat → Int → Option (List Int)) (N : Int → List Int) (s : Int) (n : Nat) (h1 : 1 ≤ n) (hn : n ≤ 1000) (hs : 0 ≤ s ∧ s < (n : Int)) (hN : ∀ x, 0 ≤ x → x < (n : Int) → Ev (fun k => nx k x) (N x) ∧ ∀ y ∈ N x, 0 ≤ y ∧ y < (n : Int)) :
    ∃ far, Ev (fun k => impl_steps.g (nx k) k n s) far ∧ far.length = n ∧ ∀ x, 0 ≤ x ∧ x < (n : Int) → Least N s x (rd far x) := by
  obtain ⟨K, hK⟩ := Ev_few nx N n (fun x h0 h1 => (hN x h0 h1).1)
  have key := fun k (hk : K ≤ k) (hf : n + 1 ≤ k) => steps_ok (nx k) N s n h1 hn hs (fun x h0 h1 => ⟨hK k hk x h0 h1, (hN x h0 h1).2⟩) k hf
  obtain ⟨far, h2, h3, h4⟩ := key (max K (n + 1)) (by omega) (by omega)
  refine ⟨far, ⟨max K (n + 1), fun k hk => ?_⟩, h3, h4⟩
  obtain ⟨far', h5, h6, h7⟩ := key k (by omega) (by omega)
  show impl_steps.g (nx k) k n s = some far
  rw [h5, far_one N s n far' far h6 h3 h7 h4]
end Go.Proofs.YtllihaahppelhaaGreat.Pr
namespace Go.Proofs.YtllihaahppelhaaGreat.Pr
open Go.RowKit Go.Proofs.YtllihaahppelhaaGreat.P Go.Proofs.YtllihaahppelhaaGreatW.PrintWords Go.Proofs.YtllihaahppelhaaGreat.E
theorem fidx_get (p : Int → Bool) (L : List Int) (h : ∃ c ∈ L, p c = true) : ∃ i : Nat, ∃ hi : i < L.length, Hlp.fidx p L = (i : Int) ∧ p L[i] = true ∧ ∀ j, (hj : j < i) → p (L[j]'(by omega)) = false := by
  obtain ⟨c, hc, hp⟩ := h
  cases e : L.findIdx? p with
  | none => exact absurd hp (by simp [List.findIdx?_eq_none_iff.1 e c hc])
  | some i =>
    obtain ⟨hi, h1, h2⟩ := List.findIdx?_eq_some_iff_getElem.1 e
    exact ⟨i, hi, by unfold Hlp.fidx; rw [e], h1, fun j hj => by simpa using h2 j hj⟩
theorem ld_l1 (l : List Kn) (b at_ : Int) (far out L : List Int) (r : List Int × Bool) (d : Int) (hat : 0 ≤ at_ ∧ at_ < (far.length : Int)) (hL : L.length ≤ 1000) (hin : ∀ c ∈ L, 0 ≤ c ∧ c < (far.length : Int)) (hd : wrap64 (rd far at_ - 1) = d) (ho : out.length ≤ 1000) (i : Nat) (hi : i < L.length) (h1 : rd far L[i] = d) (h2 : ∀ j, (hj : j < i) → ¬ rd far (L[j]'(by omega)) = d)
    (hr : Ev (fun k => spec_LineDown.l0 k l b far (out ++ [L[i]]) L[i]) r) (n : Nat) : ∀ j : Nat, j ≤ i → i - j ≤ n → Ev (fun k => spec_LineDown.l1 k l b far out at_ L (L.length : Int) (j : Int)) r := by
  have hit : ∀ j : Nat, (hj : j < L.length) → rd far L[j] = d → Ev (fun k => spec_LineDown.l0 k l b far (out ++ [L[j]]) L[j]) r → Ev (fun k => spec_LineDown.l1 k l b far out at_ L (L.length : Int) (j : Int)) r := by
    intro j hj he hr
    have hc := hin L[j] (List.getElem_mem hj)
    refine Ev.step (f := fun k => _) (fun k => by rw [spec_LineDown.l1]) (ifp (by omega) (ifp (by omega) (ifp (by omega) ?_)))
    rw [rdI L j hj, hd]
    exact ifp hc.1 (ifp hc.2 (ifp hat.1 (ifp hat.2 (ifp he (ifp (by omega) hr)))))
  induction n with
  | zero =>
    intro j h3 h4
    obtain rfl : j = i := by omega
    exact hit j hi h1 hr
  | succ n ih =>
    intro j h3 h4
    by_cases e : j = i
    · subst e
      exact hit j hi h1 hr
    · have hj : j < L.length := by omega
      have hc := hin L[j] (List.getElem_mem hj)
      refine Ev.step (f := fun k => _) (fun k => by rw [spec_LineDown.l1]) (ifp (by omega) (ifp (by omega) (ifp (by omega) ?_)))
      rw [rdI L j hj, hd, w64 ((j : Int) + 1) (by omega)]
      exact ifp hc.1 (ifp hc.2 (ifp hat.1 (ifp hat.2 (ifn (h2 j (by omega)) (ih (j + 1) (by omega) (by omega))))))
/-- A way down from x to b: each one a child of the one before. -/
def Dw (l : List Kn) (b : Int) : Int → List Int → Prop
  | x, [] => x = b
  | x, c :: cs => c ∈ kids l x ∧ Dw l b c cs
theorem Dw_last (l : List Kn) (b : Int) : ∀ (t : List Int) (x : Int), Dw l b x t → rd (x :: t) (t.length : Int) = b
  | [], x, h => h
  | c :: cs, x, h => by
    have := Dw_last l b cs c h.2
    rw [rdI _ _ (by simp)] at this ⊢
    simpa using this
theorem Dw_at (l : List Kn) (b : Int) : ∀ (t : List Int) (x : Int) (i : Nat), Dw l b x t → i < t.length → rd (x :: t) ((i + 1 : Nat) : Int) ∈ kids l (rd (x :: t) (i : Int))
  | [], x, i, _, hi => absurd hi (Nat.not_lt_zero _)
  | c :: cs, x, 0, h, _ => by
    rw [rdI _ 1 (by simp), show ((0 : Nat) : Int) = ((0 : Nat) : Int) from rfl, rdI _ 0 (by simp)]
    simpa using h.1
  | c :: cs, x, i + 1, h, hi => by
    have hi2 : i < cs.length := by simpa using hi
    have := Dw_at l b cs c i h.2 hi2
    rw [rdI _ (i + 1) (by simp; omega), rdI _ i (by simp; omega)] at this
    rw [rdI _ (i + 1 + 1) (by simp; omega), rdI _ (i + 1) (by simp; omega)]
    simpa using this
theorem ld_both (l : List Kn) (hf : Fam l) (b : Int) (hb : 0 ≤ b ∧ b < (l.length : Int)) (far : List Int) (hlen : far.length = l.length) (hfar : ∀ x, 0 ≤ x ∧ x < (l.length : Int) → Least (pp l) b x (rd far x)) (d : Nat) : ∀ (at_ : Int) (out : List Int), 0 ≤ at_ ∧ at_ < (l.length : Int) → rd far at_ = (d : Int) → out.length + d ≤ 1000 →
    ∃ r t, r = out ++ t ∧ Dw l b at_ t ∧ t.length = d ∧ Ev (fun k => spec_LineDown.l0 k l b far out at_) (r, true) ∧ ∀ ch : Int → Option (List Int), (∀ x, 0 ≤ x → x < (l.length : Int) → ch x = some (kids l x)) → ∀ f, d + 1 ≤ f → impl_LineDown.lp ch far b f at_ out = some r := by
  have h14 := hf.1.2
  have hb0 : rd far b = 0 := Least_one (pp l) b b _ _ (hfar b hb) (.inr ⟨0, rfl, .now, fun k _ => Nat.zero_le k⟩)
  induction d with
  | zero =>
    intro at_ out hat hd _
    have e : at_ = b := by
      rcases hfar at_ hat with ⟨h1, _⟩ | ⟨m, h1, h2, _⟩
      · omega
      · obtain rfl : m = 0 := by omega
        exact Wk_zero l b at_ h2
    refine ⟨out, [], by simp, e, rfl, Ev.step (f := fun k => _) (fun k => by rw [spec_LineDown.l0]) (ifp e now), fun ch _ f hf => ?_⟩
    cases f with
    | zero => omega
    | succ f => rw [impl_LineDown.lp, if_pos e]
  | succ d ih =>
    intro at_ out hat hd ho
    have hne : ¬ at_ = b := by intro e; rw [e, hb0] at hd; omega
    have hkl := kids_len l at_
    have hrange : ∀ c ∈ kids l at_, 0 ≤ c ∧ c < (far.length : Int) := fun c hc => by rw [hlen]; exact ((kids_iff l at_ c).1 hc).1
    have hex : ∃ c ∈ kids l at_, impl_LineDown.pk far (rd far at_ - 1) c = true := by
      rcases hfar at_ hat with ⟨h1, _⟩ | ⟨m, h1, h2, h3⟩
      · omega
      · obtain rfl : m = d + 1 := by omega
        obtain ⟨c, hc, hw⟩ := (Wk_kid l hf b hb at_ d).1 h2
        refine ⟨c, hc, ?_⟩
        unfold impl_LineDown.pk
        rw [decide_eq_true_eq]
        rcases hfar c (by have := hrange c hc; omega) with ⟨_, h5⟩ | ⟨m', h4, h5, h6⟩
        · exact absurd hw (h5 d)
        · have h7 := h6 d hw
          have h8 := h3 (m' + 1) ((Wk_kid l hf b hb at_ m').2 ⟨c, hc, h5⟩)
          omega
    obtain ⟨i, hi, e1, e2, e3⟩ := fidx_get _ _ hex
    unfold impl_LineDown.pk at e2 e3
    simp only [decide_eq_true_eq] at e2
    simp only [decide_eq_false_iff_not] at e3
    have hir := hrange _ (List.getElem_mem hi)
    obtain ⟨r, t, h0, hD, h1, h2, h3⟩ := ih (kids l at_)[i] (out ++ [(kids l at_)[i]]) (by omega) (by omega) (by simp; omega)
    refine ⟨r, (kids l at_)[i] :: t, by rw [h0]; simp, ⟨List.getElem_mem hi, hD⟩, by rw [List.length_cons, h1], ?_, fun ch hch f hff => ?_⟩
    · refine Ev.step (f := fun k => _) (fun k => by rw [spec_LineDown.l0]) (ifn hne (Ev.bind (faChildren l (by omega) at_) ?_))
      exact ld_l1 l b at_ far out (kids l at_) (r, true) (rd far at_ - 1) (by omega) (by omega) hrange (w64 _ (by omega)) (by omega) i hi e2 e3 h2 _ 0 (by omega) (Nat.le_refl _)
    · cases f with
      | zero => omega
      | succ f =>
        rw [impl_LineDown.lp, if_neg hne, hch at_ hat.1 hat.2, Option.bind_some, if_pos ⟨⟨by omega, by omega, by omega⟩, hrange, by rw [e1]; omega⟩, e1, rdI _ i hi]
        exact h3 ch hch f (by omega)
theorem Ld_far (l : List Kn) (hf : Fam l) (b : Int) (hb : 0 ≤ b ∧ b < (l.length : Int)) : ∃ far, Ev (fun k => spec_faDown.f k l b) far ∧ Ev (fun k => impl_steps.g (impl_LineDown.nx l) k l.length b) far ∧ far.length = l.length ∧ ∀ x, 0 ≤ x ∧ x < (l.length : Int) → Least (pp l) b x (rd far x) := by
  have h14 := hf.1
  obtain ⟨far, e1, h1, h2⟩ := faDown l hf b hb
  obtain ⟨far', e2, h3, h4⟩ := steps_ev (fun _ => impl_LineDown.nx l) (pp l) b l.length (by omega) (by omega) hb (fun x h0 h1 => ⟨by
    unfold impl_LineDown.nx
    exact ifp ⟨h0, h1⟩ now, fun y hy => by have := Fam_pp l hf x y ⟨h0, h1⟩ hy; omega⟩)
  obtain rfl := far_one _ _ _ far far' h1 h3 h2 h4
  exact ⟨far, e1, e2, h1, h2⟩
theorem Ld_one (l : List Kn) (hl : l.length ≤ 1073741824) (a b : Int) : ∃ v : List Int × Bool, Ev (fun k => spec_LineDown.f k l a b) v ∧ Ev (fun k => impl_LineDown.f k l a b) v ∧
    ((∃ t, v = (a :: t, true) ∧ (good l && (inR l a && inR l b)) = true ∧ t.length ≤ 14 ∧ Dw l b a t ∧ Wk (pp l) b a t.length ∧ ∀ m, Wk (pp l) b a m → t.length ≤ m) ∨ (v = ([], false) ∧ ((good l && (inR l a && inR l b)) = true → ∀ m, ¬ Wk (pp l) b a m))) := by
  have hk := hasKin l hl [a, b]
  rw [allIn2] at hk
  unfold spec_LineDown.f impl_LineDown.f
  by_cases h : (good l && (inR l a && inR l b)) = true
  · obtain ⟨hf, ha, hb⟩ := (two_iff l a b).1 h
    have h14 := hf.1.2
    obtain ⟨far, e1, e2, h1, h2⟩ := Ld_far l hf b hb
    have hbd := Least_bd l hf b a _ hb (h2 a ha)
    have hla := h2 a ha
    by_cases hn : rd far a < 0
    · refine ⟨([], false), Ev.bind (faTwo l hl a b) (ifp h (Ev.bind e1 (ifp ha.1 (ifp (by omega) (ifp hn now))))), Ev.bind hk (ifp h (Ev.bind e2 (ifp (by omega) (ifp hn now)))), .inr ⟨rfl, fun _ => ?_⟩⟩
      rcases hla with ⟨_, h6⟩ | ⟨m, h6, _⟩
      · exact h6
      · omega
    · obtain ⟨d, hd⟩ := Int.eq_ofNat_of_zero_le (show 0 ≤ rd far a by omega)
      obtain ⟨r, t, h3, hD, h4, h5, h6⟩ := ld_both l hf b hb far h1 h2 d a [a] ha hd (by simp; omega)
      obtain rfl : r = a :: t := h3
      refine ⟨(a :: t, true), Ev.bind (faTwo l hl a b) (ifp h (Ev.bind e1 (ifp ha.1 (ifp (by omega) (ifn hn h5))))), Ev.bind hk (ifp h (Ev.bind e2 (ifp (by omega) (ifn hn (Ev.bind (a := a :: t) ?_ now))))), .inl ⟨t, rfl, h, by omega, hD, ?_⟩⟩
      · obtain ⟨K, hK⟩ := Ev_few (fun k x => impl_children.f k l x) (kids l) l.length (fun x _ _ => children l (by omega) x)
        exact ⟨max K (d + 1), fun k hk => h6 _ (fun x h0 h1 => hK k (by omega) x h0 h1) k (by omega)⟩
      · rcases hla with ⟨h7, _⟩ | ⟨m, h7, h8, h9⟩
        · omega
        · obtain rfl : m = t.length := by omega
          exact ⟨h8, h9⟩
  · exact ⟨([], false), Ev.bind (faTwo l hl a b) (ifn h now), Ev.bind hk (ifn h now), .inr ⟨rfl, fun h2 => absurd h2 h⟩⟩
end Go.Proofs.YtllihaahppelhaaGreat.Pr
namespace Go.Proofs.YtllihaahppelhaaGreat.Pr
open Go.RowKit Go.Proofs.YtllihaahppelhaaGreat.P Go.Proofs.YtllihaahppelhaaGreatW.PrintWords Go.Proofs.YtllihaahppelhaaGreat.E
theorem St_nx (l : List Kn) (hf : Fam l) (x : Int) (h0 : 0 ≤ x) (h1 : x < (l.length : Int)) : Ev (fun k => impl_StepsApart.nx k l x) (nbr l x) := by
  have hkl := kids_len l x
  have h14 := hf.1.2
  unfold impl_StepsApart.nx
  exact ifp ⟨h0, h1⟩ (Ev.bind (children l (by omega) x) (ifp (by omega) now))
theorem St_impl (l : List Kn) (hf : Fam l) (a b : Int) (ha : 0 ≤ a ∧ a < (l.length : Int)) (hb : 0 ≤ b ∧ b < (l.length : Int)) : ∃ v, Ev (fun k => (impl_steps.g (impl_StepsApart.nx k l) k l.length a).bind fun far => if 0 ≤ b ∧ b < (far.length : Int) then (if rd far b < 0 then some (0, false) else some (rd far b, true)) else none) v ∧ Told (nbr l) a b v := by
  have h14 := hf.1.2
  obtain ⟨far, e, hlen, h⟩ := steps_ev (fun k => impl_StepsApart.nx k l) (nbr l) a l.length (by omega) (by omega) ha (fun x h0 h1 => ⟨St_nx l hf x h0 h1, fun y hy => nbr_in l hf x y ⟨h0, h1⟩ hy⟩)
  rcases h b hb with ⟨h1, h2⟩ | ⟨m, h1, h2⟩
  · exact ⟨(0, false), Ev.bind e (ifp (by omega) (ifp (by omega) now)), .inl ⟨rfl, h2⟩⟩
  · refine ⟨((m : Int), true), Ev.bind e (ifp (by omega) (ifn (by omega) ?_)), .inr ⟨m, rfl, h2⟩⟩
    rw [h1]; exact now
theorem St_one (l : List Kn) (hl : l.length ≤ 1073741824) (a b : Int) : ∃ v, Ev (fun k => spec_StepsApart.f k l a b) v ∧ Ev (fun k => impl_StepsApart.f k l a b) v ∧ (((good l && (inR l a && inR l b)) = true ∧ Told (nbr l) a b v) ∨ (¬ (good l && (inR l a && inR l b)) = true ∧ v = (0, false))) := by
  have hk := hasKin l hl [a, b]
  rw [allIn2] at hk
  unfold spec_StepsApart.f impl_StepsApart.f
  by_cases h : (good l && (inR l a && inR l b)) = true
  · obtain ⟨hf, ha, hb⟩ := (two_iff l a b).1 h
    obtain ⟨v, e1, t1⟩ := spec_steps l hf a b ha
    obtain ⟨v', e2, t2⟩ := St_impl l hf a b ha hb
    obtain rfl := Told_one _ a b _ _ t1 t2
    exact ⟨v, Ev.bind (faTwo l hl a b) (ifp h e1), Ev.bind hk (ifp h e2), .inl ⟨h, t1⟩⟩
  · exact ⟨(0, false), Ev.bind (faTwo l hl a b) (ifn h now), Ev.bind hk (ifn h now), .inr ⟨h, rfl⟩⟩
end Go.Proofs.YtllihaahppelhaaGreat.Pr
namespace Go.Proofs.YtllihaahppelhaaGreat.Pr
open Go.RowKit Go.Proofs.YtllihaahppelhaaGreat.P Go.Proofs.YtllihaahppelhaaGreatW.PrintWords Go.Proofs.YtllihaahppelhaaGreat.E
noncomputable def vAnc (l : List Kn) (a : Int) : List Int × Bool := if (good l && inR l a) = true then (ancs l a, true) else ([], false)
theorem impl_Anc (l : List Kn) (hl : l.length ≤ 1073741824) (a : Int) : Ev (fun k => impl_AncestorsOf.f k l a) (vAnc l a) := by
  unfold impl_AncestorsOf.f vAnc
  have hk := hasKin l hl [a]
  rw [allIn1] at hk
  refine Ev.bind hk ?_
  by_cases h : (good l && inR l a) = true
  · obtain ⟨hf, ha⟩ := (one_iff l a).1 h
    rw [h]
    exact ifp rfl (Ev.bind (ancestors l hf a ha) now)
  · rw [if_neg h]
    exact ifn h now
end Go.Proofs.YtllihaahppelhaaGreat.Pr
namespace Go.Proofs.YtllihaahppelhaaGreat.Pr
open Go.RowKit Go.Proofs.YtllihaahppelhaaGreat.P Go.Proofs.YtllihaahppelhaaGreatW.PrintWords Go.Proofs.YtllihaahppelhaaGreat.E
noncomputable def vComm (l : List Kn) (a b : Int) : List Int × Bool := if (good l && (inR l a && inR l b)) = true then (comms l a b, true) else ([], false)
theorem spec_Comm (l : List Kn) (hl : l.length ≤ 1073741824) (a b : Int) : Ev (fun k => spec_CommonAncestors.f k l a b) (vComm l a b) := by
  unfold spec_CommonAncestors.f vComm
  refine Ev.bind (faTwo l hl a b) ?_
  by_cases h : (good l && (inR l a && inR l b)) = true
  · obtain ⟨hf, ha, hb⟩ := (two_iff l a b).1 h
    rw [h]
    exact ifp rfl (Ev.bind (faCommon l hf a b ha hb) now)
  · rw [if_neg h]
    exact ifn h now
theorem impl_Comm (l : List Kn) (hl : l.length ≤ 1073741824) (a b : Int) : Ev (fun k => impl_CommonAncestors.f k l a b) (vComm l a b) := by
  unfold impl_CommonAncestors.f vComm
  have hk := hasKin l hl [a, b]
  rw [allIn2] at hk
  refine Ev.bind hk ?_
  by_cases h : (good l && (inR l a && inR l b)) = true
  · obtain ⟨hf, ha, hb⟩ := (two_iff l a b).1 h
    rw [h]
    exact ifp rfl (Ev.bind (commonAncestors l hf a b ha hb) now)
  · rw [if_neg h]
    exact ifn h now
theorem vComm_len (l : List Kn) (a b : Int) : (vComm l a b).1.length ≤ l.length := by
  unfold vComm
  split
  · exact comms_len l a b
  · simp
end Go.Proofs.YtllihaahppelhaaGreat.Pr
namespace Go.Proofs.YtllihaahppelhaaGreat.Pure
open Go.RowKit Go.Proofs.YtllihaahppelhaaGreat.P Go.Proofs.YtllihaahppelhaaGreat.Pr Go.Proofs.YtllihaahppelhaaGreat.E Go.Proofs.YtllihaahppelhaaGreatW.PrintWords
/-- The tests of two texts. -/
theorem says (i j : Nat) (hi : i ≤ 12) (hj : j ≤ 12) : laws_FnKinRelated.Says (relText i) (relText j) (i == 0) (i == 1) (i == 3) (i == 4) (i == 6) (i == 7) (i == 8) (i == 9) (i == 12) (j == 2) (j == 3) (j == 5) (j == 6) (j == 7) (j == 8) (j == 12) := by
  have key : ∀ i, i ≤ 12 → ∀ j, j ≤ 12 → ((relText i).toList == (relText j).toList) = (i == j) := by
    intro i hi j hj
    rw [ByteArray.toList_eq, ByteArray.toList_eq]
    revert j
    revert i
    decide
  have one : ∀ i, i ≤ 12 → ∀ j (L : List UInt8), j ≤ 12 → (relText j).toList = L → ((relText i).toList == L) = (i == j) := fun i hi j L hj e => e ▸ key i hi j hj
  constructor
  · exact one i hi 0 _ (by omega) (by rw [ByteArray.toList_eq]; rfl)
  · exact one i hi 1 _ (by omega) (by rw [ByteArray.toList_eq]; rfl)
  · exact one i hi 3 _ (by omega) (by rw [ByteArray.toList_eq]; rfl)
  · exact one i hi 4 _ (by omega) (by rw [ByteArray.toList_eq]; rfl)
  · exact one i hi 6 _ (by omega) (by rw [ByteArray.toList_eq]; rfl)
  · exact one i hi 7 _ (by omega) (by rw [ByteArray.toList_eq]; rfl)
  · exact one i hi 8 _ (by omega) (by rw [ByteArray.toList_eq]; rfl)
  · exact one i hi 9 _ (by omega) (by rw [ByteArray.toList_eq]; rfl)
  · exact one i hi 12 _ (by omega) (by rw [ByteArray.toList_eq]; rfl)
  · exact one j hj 2 _ (by omega) (by rw [ByteArray.toList_eq]; rfl)
  · exact one j hj 3 _ (by omega) (by rw [ByteArray.toList_eq]; rfl)
  · exact one j hj 5 _ (by omega) (by rw [ByteArray.toList_eq]; rfl)
  · exact one j hj 6 _ (by omega) (by rw [ByteArray.toList_eq]; rfl)
  · exact one j hj 7 _ (by omega) (by rw [ByteArray.toList_eq]; rfl)
  · exact one j hj 8 _ (by omega) (by rw [ByteArray.toList_eq]; rfl)
  · exact one j hj 12 _ (by omega) (by rw [ByteArray.toList_eq]; rfl)
theorem pats_of (p : Nat × Nat) (h : p ∈ pairs) : p.1 ≤ 12 ∧ p.2 ≤ 12 ∧ [p.1 == 1, p.1 == 3, p.1 == 4, p.1 == 6, p.1 == 7, p.1 == 8, p.1 == 12, p.2 == 2, p.2 == 3, p.2 == 5, p.2 == 6, p.2 == 7, p.2 == 8, p.2 == 12] ∈ laws_FnKinRelated.pats := by
  revert p
  decide
/-- What holds of two of a list of kin. -/
theorem part1 (l : List Kn) (hl : l.length ≤ 1048576) (a b : Int) : ∃ C L up st ag n9 n11 n13 hs,
    (vComm l a b).1 = C ∧ Ev (fun k => spec_LineDown.f k l a b) (L, n9) ∧ Ev (fun k => impl_LineDown.f k l a b) (L, n9) ∧ Ev (fun k => spec_StepsApart.f k l a b) (st, n11) ∧ Ev (fun k => impl_StepsApart.f k l a b) (st, n11) ∧ vAge l a b = (ag, n13) ∧
    (both2 l a b = true → Ev (fun k => impl_StepsApart.f k l b a) (st, n11) ∧ Ev (fun k => impl_AncestorsOf.f k l b) (up, true) ∧ decide (a ∈ up) = hs ∧ n9 = (decide (a = b) || hs)) ∧
    (both2 l a b = false → n9 = false ∧ n11 = false ∧ n13 = false) ∧ (n9 = true → n11 = true) ∧ (n13 = true → n9 = true) ∧ L.length ≤ 15 ∧ up.length ≤ l.length ∧
    (n9 = true → both2 l a b = true ∧ 0 < L.length ∧ rd L 0 = a ∧ rd L (((L.length - 1 : Nat)) : Int) = b ∧ st ≤ (L.length : Int) - 1 ∧ ∀ i : Nat, 1 ≤ i → i < L.length → rd L (i : Int) ∈ kids l (rd L ((i - 1 : Nat) : Int))) ∧
    (n13 = true → both2 l a b = true ∧ 14 ≤ ag ∧ ag ≤ 3000 ∧ ag = (rdK l b).f0 - (rdK l a).f0 ∧ L.length = 2 ∧ st = 1) ∧
    (both2 l a b = true → (n13 = true ↔ relNo l a b = 1)) := by
  obtain ⟨⟨L, n9⟩, e1, e2, hL⟩ := Ld_one l (by omega) a b
  obtain ⟨⟨st, n11⟩, e3, e4, hT⟩ := St_one l (by omega) a b
  obtain ⟨⟨st', n11'⟩, e5, e6, hT'⟩ := St_one l (by omega) b a
  cases h2 : both2 l a b with
  | false =>
    have hn : ¬ (good l && (inR l a && inR l b)) = true := fun h => by rw [show both2 l a b = true from h] at h2; exact absurd h2 (by decide)
    rcases hL with ⟨t, hv, h, _⟩ | ⟨hv, _⟩
    · exact absurd h hn
    rcases hT with ⟨h, _⟩ | ⟨_, ht⟩
    · exact absurd h hn
    have ha : vAge l a b = (0, false) := vAge_no (by rw [h2]; rfl)
    injection hv with hv1 hv2
    injection ht with ht1 ht2
    subst hv1 hv2 ht1 ht2
    refine ⟨_, [], [], 0, 0, false, false, false, false, rfl, e1, e2, e3, e4, ha, (fun h => absurd h (by decide)), (fun _ => ⟨rfl, rfl, rfl⟩), (fun h => absurd h (by decide)), (fun h => absurd h (by decide)), by simp, by simp, (fun h => absurd h (by decide)), (fun h => absurd h (by decide)), (fun h => absurd h (by decide))⟩
  | true =>
    obtain ⟨hf, ha, hb⟩ := both2_of h2
    have h14 := hf.1.2
    have hTo : Pr.Told (nbr l) a b (st, n11) := by
      rcases hT with ⟨_, h⟩ | ⟨h, _⟩
      · exact h
      · exact absurd h2 h
    have hTo' : Pr.Told (nbr l) b a (st', n11') := by
      rcases hT' with ⟨_, h⟩ | ⟨h, _⟩
      · exact h
      · exact absurd ((two_iff l b a).2 ⟨hf, hb, ha⟩) h
    have hin : ∀ x y, (0 ≤ x ∧ x < (l.length : Int)) → y ∈ nbr l x → (0 ≤ y ∧ y < (l.length : Int)) := fun x y hx h => nbr_in l hf x y hx h
    have hrev := Told_rev (R := fun x => 0 ≤ x ∧ x < (l.length : Int)) hin (fun x y hx h => nbr_sym l x y hx h) ha hb hTo
    have hsame := Told_one _ _ _ _ _ hrev hTo'
    injection hsame with hs1 hs2
    subst hs1 hs2
    have hanc : Ev (fun k => impl_AncestorsOf.f k l b) (ancs l b, true) := by
      have h := impl_Anc l (by omega) b
      unfold vAnc at h
      rw [if_pos ((one_iff l b).2 ⟨hf, hb⟩)] at h
      exact h
    have hdec : decide (a ∈ ancs l b) = dec (Anc l a b) := by
      rw [Bool.eq_iff_iff, decide_eq_true_iff, dec_iff]
      exact (upTo_mem _ _ _).trans ⟨fun h => h.2, fun h => ⟨ha, h⟩⟩
    have hsub : ∀ m, Wk (pp l) b a m → Wk (nbr l) b a m := fun m h => Wk_sub (fun x y hy => List.mem_append.2 (.inl hy)) h
    have hup : (ancs l b).length ≤ l.length := upTo_len _ _
    -- the line
    have hline : (n9 = true ∧ ∃ t, L = a :: t ∧ t.length ≤ 14 ∧ Dw l b a t ∧ Wk (pp l) b a t.length ∧ ∀ m, Wk (pp l) b a m → t.length ≤ m) ∨ (n9 = false ∧ L = [] ∧ ∀ m, ¬ Wk (pp l) b a m) := by
      rcases hL with ⟨t, hv, _, h3, h4, h5, h6⟩ | ⟨hv, h3⟩
      · injection hv with hv1 hv2
        exact .inl ⟨hv2, t, hv1, h3, h4, h5, h6⟩
      · injection hv with hv1 hv2
        exact .inr ⟨hv2, hv1, h3 h2⟩
    have h9 : n9 = (decide (a = b) || decide (a ∈ ancs l b)) := by
      rw [hdec, Bool.eq_iff_iff, Bool.or_eq_true, decide_eq_true_iff, dec_iff, ← Wk_anc l b a]
      rcases hline with ⟨h, t, _, _, _, hw, _⟩ | ⟨h, _, hw⟩
      · exact ⟨fun _ => ⟨_, hw⟩, fun _ => h⟩
      · rw [h]
        exact ⟨fun h => absurd h (by decide), fun ⟨m, hm⟩ => absurd hm (hw m)⟩
    have h9' : n9 = true → ∃ t, L = a :: t ∧ t.length ≤ 14 ∧ Dw l b a t ∧ Wk (pp l) b a t.length ∧ ∀ m, Wk (pp l) b a m → t.length ≤ m := fun h => by
      rcases hline with ⟨_, h3⟩ | ⟨h3, _⟩
      · exact h3
      · rw [h3] at h; exact absurd h (by decide)
    have hle : ∀ t : List Int, Wk (pp l) b a t.length → n11 = true ∧ 0 ≤ st ∧ st ≤ (t.length : Int) := fun t hw => Told_le hrev (hsub _ hw)
    -- the age
    have hage : ((pp l b).contains a = true ∧ vAge l a b = (age l a b, true)) ∨ ((pp l b).contains a = false ∧ vAge l a b = (0, false)) := by
      cases hc : (pp l b).contains a with
      | true => exact .inl ⟨rfl, vAge_yes (by rw [h2, hc]; rfl)⟩
      | false => exact .inr ⟨rfl, vAge_no (by rw [h2, hc]; rfl)⟩
    have hpar : (pp l b).contains a = true → n9 = true ∧ L.length = 2 ∧ st = 1 := fun hc => by
      have hm := List.contains_iff_mem.1 hc
      have hlt := Fam_pp l hf b a hb hm
      have hw1 : Wk (pp l) b a 1 := .on .now hm
      have hn : n9 = true := by
        rcases hline with ⟨h, _⟩ | ⟨_, _, h⟩
        · exact h
        · exact absurd hw1 (h 1)
      obtain ⟨t, rfl, ht, hD, hw, hmin⟩ := h9' hn
      have h1 := hmin 1 hw1
      have h0 : t.length ≠ 0 := fun h0 => by
        rw [h0] at hw
        have := Wk_zero l b a hw
        omega
      have hst := Told_le hrev (hsub 1 hw1)
      have hst1 := Told_pos hrev (by omega) hst.1
      refine ⟨hn, by simp; omega, ?_⟩
      have h5 : st ≤ 1 := hst.2.2
      have h6 : 1 ≤ st := hst1
      omega
    have hrel := relNo_parent l hf a b hb
    refine ⟨_, L, ancs l b, st, (vAge l a b).1, n9, n11, (vAge l a b).2, _, rfl, e1, e2, e3, e4, rfl, (fun _ => ⟨e6, hanc, rfl, h9⟩), (fun h => absurd h (by decide)), (fun h => ?_), (fun h => ?_), ?_, hup, (fun h => ?_), (fun h => ?_), (fun _ => ?_)⟩
    · obtain ⟨t, _, _, _, hw, _⟩ := h9' h
      exact (hle t hw).1
    · rcases hage with ⟨hc, _⟩ | ⟨_, hv⟩
      · exact (hpar hc).1
      · rw [hv] at h; exact absurd h (by decide)
    · rcases hline with ⟨_, t, rfl, ht, _⟩ | ⟨_, rfl, _⟩
      · simp; omega
      · simp
    · obtain ⟨t, rfl, ht, hD, hw, _⟩ := h9' h
      refine ⟨rfl, by simp, rfl, ?_, ?_, fun i h1 hi => ?_⟩
      · rw [show ((a :: t).length - 1 : Nat) = t.length by simp]; exact Dw_last l b t a hD
      · have := (hle t hw).2.2
        simp; omega
      · have := Dw_at l b t a (i - 1) hD (by simp at hi; omega)
        rw [show i - 1 + 1 = i by omega] at this
        exact this
    · rcases hage with ⟨hc, hv⟩ | ⟨_, hv⟩
      · obtain ⟨h3, h4, h5⟩ := hpar hc
        have := age_fam l hf a b hb (List.contains_iff_mem.1 hc)
        rw [hv]
        exact ⟨rfl, this.1, this.2, rfl, h4, h5⟩
      · rw [hv] at h; exact absurd h (by decide)
    · rw [hrel]
      rcases hage with ⟨hc, hv⟩ | ⟨hc, hv⟩
      · rw [hv]; exact ⟨fun _ => hc, fun _ => rfl⟩
      · rw [hv]; exact ⟨fun h => absurd h (by decide), fun h => by rw [hc] at h; exact absurd h (by decide)⟩
/-- What holds of the youngest parent. -/
theorem part2 (u : List Kn) (hu : u.length ≤ 1048576) (c d : Int) : ∃ p1 p2 yh ls, Ev (fun k => spec_YoungestParent.f k u) (p1, p2, yh) ∧ Ev (fun k => impl_YoungestParent.f k u) (p1, p2, yh) ∧ ((vAge u c d).2 = true → yh = true) ∧ (yh = true → vAge u p1 p2 = (ls, true) ∧ ((vAge u c d).2 = true → ls ≤ (vAge u c d).1)) := by
  obtain ⟨⟨p1, p2, yh⟩, e1, e2, h⟩ := young u hu
  have hpar : (vAge u c d).2 = true → both2 u c d = true ∧ (pp u d).contains c = true ∧ vAge u c d = (age u c d, true) := fun h => by
    cases hc : (both2 u c d && (pp u d).contains c) with
    | true => exact ⟨(Bool.and_eq_true_iff.1 hc).1, (Bool.and_eq_true_iff.1 hc).2, vAge_yes hc⟩
    | false => rw [vAge_no hc] at h; exact absurd h (by decide)
  have hkid : (vAge u c d).2 = true → d ∈ kids u c := fun h => by
    obtain ⟨h3, h4, _⟩ := hpar h
    obtain ⟨hf, hc, hd⟩ := both2_of h3
    exact (kids_iff u c d).2 ⟨hd, List.contains_iff_mem.1 h4⟩
  rcases h with ⟨hg, hY⟩ | ⟨hg, hv⟩
  · rcases hY with ⟨h1, h2⟩ | ⟨h1, h2, h3⟩
    · obtain rfl : yh = false := h1
      exact ⟨p1, p2, false, 0, e1, e2, fun h => absurd (hkid h) (h2 c d), fun h => absurd h (by decide)⟩
    · obtain rfl : yh = true := h1
      have hf := (good_iff u).1 hg
      obtain ⟨k1, k2⟩ := (kids_iff u p1 p2).1 h2
      have k3 := Fam_pp u hf p2 p1 k1 k2
      have hb : both2 u p1 p2 = true := (two_iff u p1 p2).2 ⟨hf, by omega, k1⟩
      refine ⟨p1, p2, true, age u p1 p2, e1, e2, fun _ => rfl, fun _ => ⟨vAge_yes (by rw [hb, List.contains_iff_mem.2 k2]; rfl), fun h => ?_⟩⟩
      rw [(hpar h).2.2]
      exact h3 c d (hkid h)
  · injection hv with hv1 hv2
    injection hv2 with hv2 hv3
    subst hv1 hv2 hv3
    refine ⟨0, 0, false, 0, e1, e2, fun h => ?_, fun h => absurd h (by decide)⟩
    obtain ⟨h3, _⟩ := hpar h
    obtain ⟨hf, _⟩ := both2_of h3
    rw [(good_iff u).2 hf] at hg
    exact absurd hg (by decide)
theorem FnKinRelated : laws_FnKinRelated.Pure := by
  intro l0 l1 _ _ w0 _ _ w1
  have hl0 : Bytes l0 := fun x hx => by have := w0 x hx; simp [Lit.wf, IntKind.min, IntKind.max, IntKind.signed, IntKind.bits] at this; omega
  have hl1 : Bytes l1 := fun x hx => by have := w1 x hx; simp [Lit.wf, IntKind.min, IntKind.max, IntKind.signed, IntKind.bits] at this; omega
  by_cases hb : laws_big.f l0 l1 = some true
  · exact ⟨0, by unfold laws_FnKinRelated.f; exact if_pos hb⟩
  have hb2 : laws_big.f l0 l1 = some false := by
    unfold laws_big.f at hb ⊢
    by_cases h : (l0.length : Int) > 1048576
    · rw [if_pos h] at hb; exact absurd rfl hb
    · rw [if_neg h] at hb ⊢
      cases e : decide ((l1.length : Int) > (wrap64 (1048576 - (l0.length : Int)))) with
      | true => rw [e] at hb; exact absurd rfl hb
      | false => rfl
  obtain ⟨l, a, b, ⟨K1, k1⟩, hll⟩ := drawRelation l0 hl0
  obtain ⟨u, cc, d, ⟨K2, k2⟩, huu⟩ := drawAge l1 hl1
  have hl : l.length ≤ 1048576 := by omega
  have hu : u.length ≤ 1048576 := by omega
  obtain ⟨C, L, up, st, ag, n9, n11, n13, hs, hC, ⟨K3, k3⟩, ⟨K4, k4⟩, ⟨K5, k5⟩, ⟨K6, k6⟩, hag, hyes, hno, h911, h139, hlL, hup, hline, hage, hrel1⟩ := part1 l hl a b
  obtain ⟨p1, p2, yh, ls, ⟨K7, k7⟩, ⟨K8, k8⟩, hy1, hy2⟩ := part2 u hu cc d
  obtain ⟨K9, k9⟩ := spec_Rel l (by omega) a b
  obtain ⟨K10, k10⟩ := impl_Rel l (by omega) a b
  obtain ⟨K11, k11⟩ := impl_Rel l (by omega) b a
  obtain ⟨K12, k12⟩ := sSib l hl a b
  obtain ⟨K13, k13⟩ := iSib l hl a b
  obtain ⟨K14, k14⟩ := iSib l hl b a
  obtain ⟨K15, k15⟩ := sHalf l hl a b
  obtain ⟨K16, k16⟩ := iHalf l hl a b
  obtain ⟨K17, k17⟩ := sCous l hl a b
  obtain ⟨K18, k18⟩ := iCous l hl a b
  obtain ⟨K19, k19⟩ := iCous l hl b a
  obtain ⟨K20, k20⟩ := spec_Comm l (by omega) a b
  obtain ⟨K21, k21⟩ := impl_Comm l (by omega) a b
  obtain ⟨K22, k22⟩ := sAge l hl a b
  obtain ⟨K23, k23⟩ := iAge l hl a b
  obtain ⟨K24, k24⟩ := sAge u hu cc d
  obtain ⟨K25, k25⟩ := iAge u hu cc d
  obtain ⟨K26, k26⟩ := iAge u hu p1 p2
  have hClen : C.length ≤ l.length := hC ▸ vComm_len l a b
  obtain ⟨K27, k27⟩ := gSame C (by omega)
  obtain ⟨K28, k28⟩ := gSame L (by omega)
  have hCup : C.Pairwise (· < ·) := by
    rw [← hC]
    unfold vComm
    split
    · exact (upTo_inc _ _ : (comms l a b).Pairwise (· < ·))
    · exact .nil
  obtain ⟨K29, k29⟩ := gRises C (by omega) hCup
  obtain ⟨K30, k30⟩ := gHas up a (by omega)
  have hq : ∃ K, both2 l a b = true → (∀ k, K ≤ k → impl_StepsApart.f k l b a = some (st, n11)) ∧ ∀ k, K ≤ k → impl_AncestorsOf.f k l b = some (up, true) := by
    cases h : both2 l a b with
    | false => exact ⟨0, fun h => absurd h (by decide)⟩
    | true =>
      obtain ⟨⟨A, hA⟩, ⟨B, hB⟩, _⟩ := hyes h
      exact ⟨A + B, fun _ => ⟨fun k hk => hA k (by omega), fun k hk => hB k (by omega)⟩⟩
  obtain ⟨K31, k31⟩ := hq
  have hrow : ∃ K, n9 = true → ∀ k, K ≤ k → ∀ i : Nat, 1 ≤ i → i < L.length → ∃ ch, impl_ChildrenOf.f k l (rd L ((i - 1 : Nat) : Int)) = some (ch, true) ∧ laws_qHas.f k ch (rd L (i : Int)) = some true := by
    cases h : n9 with
    | false => exact ⟨0, fun h => absurd h (by decide)⟩
    | true =>
      obtain ⟨h2, _, _, _, _, hch⟩ := hline h
      obtain ⟨hf, _, _⟩ := both2_of h2
      have h14 := hf.1.2
      have hev : ∀ n, ∃ K, ∀ k, K ≤ k → ∀ i : Nat, i < n → 1 ≤ i → i < L.length → ∃ ch, impl_ChildrenOf.f k l (rd L ((i - 1 : Nat) : Int)) = some (ch, true) ∧ laws_qHas.f k ch (rd L (i : Int)) = some true := by
        intro n
        induction n with
        | zero => exact ⟨0, fun k _ i hi => absurd hi (Nat.not_lt_zero _)⟩
        | succ n ih =>
          obtain ⟨K, hK⟩ := ih
          by_cases hn : 1 ≤ n ∧ n < L.length
          · have hm := hch n hn.1 hn.2
            obtain ⟨m1, m2⟩ := (kids_iff l _ _).1 hm
            have m3 := Fam_pp l hf _ _ m1 m2
            obtain ⟨A, hA⟩ := iKids l hf (rd L ((n - 1 : Nat) : Int)) (by omega)
            have hkl := kids_len l (rd L ((n - 1 : Nat) : Int))
            obtain ⟨B, hB⟩ := gHas (kids l (rd L ((n - 1 : Nat) : Int))) (rd L (n : Int)) (by omega)
            refine ⟨K + A + B, fun k hk i hi h1 h2 => ?_⟩
            by_cases e : i = n
            · subst e
              exact ⟨_, hA k (by omega), (hB k (by omega)).trans (by rw [decide_eq_true hm])⟩
            · exact hK k (by omega) i (by omega) h1 h2
          · refine ⟨K, fun k hk i hi h1 h2 => ?_⟩
            by_cases e : i = n
            · subst e; exact absurd ⟨h1, h2⟩ hn
            · exact hK k hk i (by omega) h1 h2
      obtain ⟨K, hK⟩ := hev L.length
      exact ⟨K, fun _ k hk i h1 h2 => hK k hk i h2 h1 h2⟩
  obtain ⟨K32, k32⟩ := hrow
  have e2 : both2 l b a = both2 l a b := by unfold both2; rw [Bool.and_comm (inR l b)]
  have hvR : vRel l a b = (if both2 l a b = true then relText (relNo l a b) else ⟨#[]⟩, both2 l a b) := by
    unfold vRel
    cases h : both2 l a b with
    | true => rw [if_pos (show (good l && (inR l a && inR l b)) = true from h), if_pos rfl]
    | false => rw [if_neg (fun h3 => by rw [show both2 l a b = true from h3] at h; exact absurd h (by decide)), if_neg (by decide)]
  have hvRb : both2 l a b = true → vRel l b a = (relText (relNo l b a), true) := fun h => by
    unfold vRel
    rw [if_pos (show (good l && (inR l b && inR l a)) = true from e2.trans h)]
  have hvT : ∀ q, vTwo q l a b = ((vTwo q l a b).1, both2 l a b) := fun q => by
    cases h : both2 l a b with
    | true => rw [vTwo_yes h]
    | false => rw [vTwo_no h]
  have hvC : vComm l a b = (C, both2 l a b) := by
    rw [← hC]
    unfold vComm
    cases h : both2 l a b with
    | true => rw [if_pos (show (good l && (inR l a && inR l b)) = true from h)]
    | false => rw [if_neg (fun h3 => by rw [show both2 l a b = true from h3] at h; exact absurd h (by decide))]
  rw [hvR] at k9 k10
  rw [hvT] at k12 k13 k15 k16 k17 k18
  rw [hvC] at k20 k21
  rw [hag] at k22 k23
  obtain ⟨K, hK⟩ : ∃ K, K = K1 + K2 + K3 + K4 + K5 + K6 + K7 + K8 + K9 + K10 + K11 + K12 + K13 + K14 + K15 + K16 + K17 + K18 + K19 + K20 + K21 + K22 + K23 + K24 + K25 + K26 + K27 + K28 + K29 + K30 + K31 + K32 := ⟨_, rfl⟩
  refine ⟨K, ?_⟩
  unfold laws_FnKinRelated.f
  rw [if_neg hb, if_pos]
  refine ⟨hb2, l, a, b, (if both2 l a b = true then relText (relNo l a b) else ⟨#[]⟩), relText (relNo l b a), both2 l a b, (vTwo sib l a b).1, (vTwo half l a b).1, (vTwo cous l a b).1, n9, n11, n13, hs,
    relNo l a b == 0, relNo l a b == 1, relNo l a b == 3, relNo l a b == 4, relNo l a b == 6, relNo l a b == 7, relNo l a b == 8, relNo l a b == 9, relNo l a b == 12, relNo l b a == 2, relNo l b a == 3, relNo l b a == 5, relNo l b a == 6, relNo l b a == 7, relNo l b a == 8, relNo l b a == 12,
    C, L, up, st, ag, u, cc, d, (vAge u cc d).1, (vAge u cc d).2, p1, p2, yh, ls, ?_⟩
  have hpat : both2 l a b = true → relNo l a b ≤ 12 ∧ relNo l b a ≤ 12 ∧ _ := fun h => by
    obtain ⟨hf, ha, hb'⟩ := both2_of h
    exact pats_of _ (relNo_pair l hf a b ha hb')
  exact {
    d1 := k1 _ (by omega)
    iR := k10 _ (by omega)
    sR := k9 _ (by omega)
    iS := k13 _ (by omega)
    sS := k12 _ (by omega)
    iH := k16 _ (by omega)
    sH := k15 _ (by omega)
    iC := k18 _ (by omega)
    sC := k17 _ (by omega)
    iA := k21 _ (by omega)
    sA := k20 _ (by omega)
    iL := k4 _ (by omega)
    sL := k3 _ (by omega)
    iT := k6 _ (by omega)
    sT := k5 _ (by omega)
    iG := k23 _ (by omega)
    sG := k22 _ (by omega)
    gC := k27 _ (by omega)
    gL := k28 _ (by omega)
    no := hno
    n9n11 := h911
    n13n9 := h139
    says := fun h => by
      obtain ⟨h1, h2, _⟩ := hpat h
      rw [if_pos h]
      exact says _ _ h1 h2
    pat := fun h => (hpat h).2.2
    e1 := fun h => by
      rw [Bool.eq_iff_iff, beq_iff_eq]
      exact (hrel1 h).symm
    e0 := fun h => by
      rw [Bool.eq_iff_iff, beq_iff_eq, decide_eq_true_iff]
      exact relNo_self l a b
    bR := fun h => (k11 _ (by omega)).trans (by rw [hvRb h])
    bS := fun h => (k14 _ (by omega)).trans (by rw [vTwo_yes (e2.trans h), vTwo_yes h, sib_sym])
    bC := fun h => (k19 _ (by omega)).trans (by rw [vTwo_yes (e2.trans h), vTwo_yes h, cous_sym])
    bT := fun h => (k31 h).1 _ (by omega)
    bA := fun h => (k31 h).2 _ (by omega)
    rC := fun _ => k29 _ (by omega)
    hU := fun h => (k30 _ (by omega)).trans (by rw [(hyes h).2.2.1])
    fl1 := fun h => by rw [vTwo_yes h, vTwo_yes h]; exact half_sib l a b
    fl2 := fun h => by rw [vTwo_yes h, vTwo_yes h]; exact fun h2 => ((cous_iff l a b).1 h2).2.1
    fl3 := fun h => (hyes h).2.2.2
    fl4 := fun h => by
      rw [vTwo_yes h]
      intro h2
      obtain ⟨hf, ha, _⟩ := both2_of h
      have := comms_sib l hf a b ha h2
      have e := hvC
      unfold vComm at e
      rw [if_pos (show (good l && (inR l a && inR l b)) = true from h)] at e
      injection e with e _
      rw [← e]; exact this
    fl5 := fun h h2 => by
      obtain ⟨h3, h4, h5⟩ := relNo_none l a b (beq_iff_eq.1 h2)
      have e := hvC
      unfold vComm at e
      rw [if_pos (show (good l && (inR l a && inR l b)) = true from h)] at e
      injection e with e _
      refine ⟨by rw [← e, h5]; rfl, ?_⟩
      obtain ⟨⟨A, hA⟩, ⟨B, hB⟩, h6, h7⟩ := hyes h
      rw [h7, decide_eq_false h3, Bool.false_or, ← h6]
      refine decide_eq_false fun hm => h4 ?_
      obtain ⟨hf, ha, hb'⟩ := both2_of h
      have e3 := impl_Anc l (by omega) b
      unfold vAnc at e3
      rw [if_pos ((one_iff l b).2 ⟨hf, hb'⟩)] at e3
      obtain ⟨D, hD⟩ := e3
      have := (hD (B + D) (by omega)).symm.trans (hB (B + D) (by omega))
      injection this with this
      injection this with this _
      rw [← this] at hm
      exact ((upTo_mem _ _ _).1 hm).2
    fl6 := fun h h2 => by
      obtain ⟨h3, h4⟩ := relNo_ancestor l a b (beq_iff_eq.1 h2)
      refine ⟨?_, by rw [vTwo_yes h]; exact h3, ?_⟩
      · obtain ⟨⟨A, hA⟩, ⟨B, hB⟩, h6, h7⟩ := hyes h
        rw [h7, ← h6]
        obtain ⟨hf, ha, hb'⟩ := both2_of h
        have e3 := impl_Anc l (by omega) b
        unfold vAnc at e3
        rw [if_pos ((one_iff l b).2 ⟨hf, hb'⟩)] at e3
        obtain ⟨D, hD⟩ := e3
        have := (hD (B + D) (by omega)).symm.trans (hB (B + D) (by omega))
        injection this with this
        injection this with this _
        rw [← this, Bool.or_eq_true]
        exact .inr (decide_eq_true ((upTo_mem _ _ _).2 ⟨ha, h4⟩))
      · rw [beq_iff_eq.1 h2]; rfl
    lC := by omega
    lL := by omega
    line := fun h => by
      obtain ⟨_, h1, h2, h3, h4, _⟩ := hline h
      exact ⟨h1, h2, h3, h4⟩
    row := fun h => k32 h _ (by omega)
    age := fun h => by
      obtain ⟨h2, h3, h4, h5, h6, h7⟩ := hage h
      obtain ⟨hf, ha, hb'⟩ := both2_of h2
      exact ⟨h3, h4, h5, h6, h7, ha, hb'⟩
    d2 := k2 _ (by omega)
    iG2 := k25 _ (by omega)
    sG2 := k24 _ (by omega)
    iY := k8 _ (by omega)
    sY := k7 _ (by omega)
    gh := hy1
    lst := fun h => by
      obtain ⟨h1, h2⟩ := hy2 h
      exact ⟨(k26 _ (by omega)).trans (by rw [h1]), h2⟩ }
end Go.Proofs.YtllihaahppelhaaGreat.Pure
