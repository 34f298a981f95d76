/- The program's GenerationsOf tells what the reference's tells, for every family, leaves what it is handed, and its rows are apart. No condition. -/
import Derived.Test.YtllihaahppelhaaPxHlawsqFnExactGenerationsOf
import Derived.Test.YtllihaahppelhaaPx1
import Derived.Test.YtllihaahppelhaaPx7
import Derived.Test.YtllihaahppelhaaPxHimplqKinqparents
import Derived.Test.YtllihaahppelhaaPx8
import Derived.Test.YtllihaahppelhaaPx2
import Derived.Test.YtllihaahppelhaaPx0
import Derived.Test.YtllihaahppelhaaEv
import Derived.Test.YtllihaahppelhaaPxHlawsqmarkIntSS
import Derived.Test.YtllihaahppelhaaPx10
namespace Go.Proofs.Ytllihaahppelhaa.Pr
open Go.RowKit Go.Proofs.Ytllihaahppelhaa.P Go.Proofs.YtllihaahppelhaaW.PrintWords Go.Proofs.Ytllihaahppelhaa.E
abbrev Kn := S49
abbrev LK := S51
abbrev rdK (l : List Kn) (i : Int) : Kn := rd_T49 l i
theorem rdK_get (l : List Kn) (i : Nat) (h : i < l.length) : rd_T49 l (i : Int) = l[i] := by simp [rd_T49, List.getD_eq_getElem?_getD, List.getElem?_eq_getElem h]
theorem rdL_get (l : List LK) (i : Nat) (h : i < l.length) : rd_T51 l (i : Int) = l[i] := by simp [rd_T51, List.getD_eq_getElem?_getD, List.getElem?_eq_getElem h]
def conv1 (x : LK) : Kn := ⟨x.f0, x.f1, x.f2⟩
def conv (l : List LK) : List Kn := l.map conv1
theorem conv_length (l : List LK) : (conv l).length = l.length := by simp [conv]
theorem szKinS (l : List LK) (h : l.length ≤ 140737488351232) : laws_szKinS.f l 1048576 = some (if l.length ≤ 1048576 then 1048576 - (l.length : Int) else -1) := by
  unfold laws_szKinS.f
  rw [w64 _ (by omega)]
  by_cases h1 : l.length ≤ 1048576
  · rw [if_neg (by omega), if_pos h1]
  · rw [if_pos (by omega), if_neg h1]
theorem toKinS_l (l : List LK) (hl : l.length ≤ 1099511627776) (n : Nat) : ∀ i : Nat, i ≤ l.length → l.length - i ≤ n →
    Ev (fun k => laws_toKinS.l0 k l (conv (l.take i) ++ List.replicate (l.length - i) z49) (i : Int)) (conv l) := by
  have stop : Ev (fun k => laws_toKinS.l0 k l (conv (l.take l.length) ++ List.replicate (l.length - l.length) z49) (l.length : Int)) (conv l) := by
    refine Ev.step (f := fun k => _) (fun k => by rw [laws_toKinS.l0]) (ifn (by omega) (evEq now ?_))
    simp
  induction n with
  | zero =>
    intro i h1 h2
    obtain rfl : i = l.length := by omega
    exact stop
  | succ n ih =>
    intro i h1 h2
    by_cases hi : i < l.length
    · have hlen : (conv (l.take i) ++ List.replicate (l.length - i) z49).length = l.length := by simp [conv]; omega
      have hset : (conv (l.take i) ++ List.replicate (l.length - i) z49).set i (conv1 l[i]) = conv (l.take (i + 1)) ++ List.replicate (l.length - (i + 1)) z49 := by
        have hc : (conv (l.take i)).length = i := by simp [conv]; omega
        rw [List.set_append_right _ _ (by omega), hc, Nat.sub_self, show l.length - i = (l.length - (i + 1)) + 1 by omega, List.replicate_succ, List.set_cons_zero, List.take_succ_eq_append_getElem hi]
        simp only [conv, List.map_append, List.map_cons, List.map_nil, List.append_assoc, List.cons_append, List.nil_append]
      refine Ev.step (f := fun k => _) (fun k => by rw [laws_toKinS.l0]) (ifp (by omega) (ifp (by omega) ?_))
      refine call (b := (l[i].f0, l[i].f1, l[i].f2)) (by rw [rdL_get l i hi]; rfl) ?_
      refine ifp (by omega) ?_
      rw [w64 _ (by omega), Int.toNat_natCast]
      have := ih (i + 1) (by omega) (by omega)
      rw [← hset] at this
      exact this
    · obtain rfl : i = l.length := by omega
      exact stop
theorem toKinS (l : List LK) (hl : l.length ≤ 1099511627776) : Ev (fun k => laws_toKinS.f k l) (conv l) := by
  unfold laws_toKinS.f
  refine ifp (by omega) (ifp (by omega) ?_)
  have := toKinS_l l hl _ 0 (by omega) (Nat.le_refl _)
  simpa [conv] using this
theorem eqKin (a b c : Int) : laws_eqKin.f a b c a b c = some true := by simp [laws_eqKin.f]
theorem eqKinS_l (l : List Kn) (hl : l.length ≤ 1099511627776) (n : Nat) : ∀ i : Nat, i ≤ l.length → l.length - i ≤ n → Ev (fun k => laws_eqKinS.l0 k l l (i : Int)) true := by
  induction n with
  | zero =>
    intro i h1 h2
    exact Ev.step (f := fun k => _) (fun k => by rw [laws_eqKinS.l0]) (ifn (by omega) now)
  | succ n ih =>
    intro i h1 h2
    by_cases hi : i < l.length
    · refine Ev.step (f := fun k => _) (fun k => by rw [laws_eqKinS.l0]) (ifp (by omega) (ifp (by omega) (ifp (by omega) (call (eqKin _ _ _) (ifp rfl ?_)))))
      rw [w64 _ (by omega)]
      exact ih (i + 1) (by omega) (by omega)
    · exact Ev.step (f := fun k => _) (fun k => by rw [laws_eqKinS.l0]) (ifn (by omega) now)
theorem eqKinS (l : List Kn) (hl : l.length ≤ 1099511627776) : Ev (fun k => laws_eqKinS.f k l l) true := by
  unfold laws_eqKinS.f
  exact ifp rfl (eqKinS_l l hl _ 0 (by omega) (Nat.le_refl _))
end Go.Proofs.Ytllihaahppelhaa.Pr
namespace Go.Proofs.Ytllihaahppelhaa.Pr
open Go.RowKit Go.Proofs.Ytllihaahppelhaa.P Go.Proofs.YtllihaahppelhaaW.PrintWords Go.Proofs.Ytllihaahppelhaa.E
theorem l1In (a lo hi : Int) : spec_l1In.f a lo hi = some (decide (lo ≤ a ∧ a ≤ hi)) := by
  unfold spec_l1In.f
  by_cases h : a ≥ lo
  · rw [if_pos h]; congr 1; simp; omega
  · rw [if_neg h]; congr 1; simp; omega
theorem between (a lo hi : Int) : impl_between.f a lo hi = some (decide (lo ≤ a ∧ a ≤ hi)) := l1In a lo hi
theorem rdI (l : List Int) (i : Nat) (h : i < l.length) : rd l (i : Int) = l[i] := by simp [rd, List.getD_eq_getElem?_getD, List.getElem?_eq_getElem h]
/-- The known parents. -/
def ps (k : Kn) : List Int := [k.f1, k.f2].filter fun x => !decide (x < 0)
theorem parents_f (k : Kn) : impl_Kin_parents.f k.f0 k.f1 k.f2 = some (ps k) := rfl
theorem ps_len (k : Kn) : (ps k).length ≤ 2 := by unfold ps; exact Nat.le_trans (List.length_filter_le _ _) (by simp)
theorem mem_ps (k : Kn) (p : Int) : p ∈ ps k ↔ (p = k.f1 ∨ p = k.f2) ∧ 0 ≤ p := by
  unfold ps
  simp [List.mem_filter]
/-- May k be told behind the first i of l? -/
def Fits (l : List Kn) (i : Nat) (k : Kn) : Prop := (0 ≤ k.f0 ∧ k.f0 ≤ 3000) ∧ ((k.f1 = -1 ∧ k.f2 = -1) ∨ ((0 ≤ k.f1 ∧ k.f1 < i ∧ 14 ≤ k.f0 - (rdK l k.f1).f0) ∧ (k.f2 = -1 ∨ (k.f1 < k.f2 ∧ k.f2 < i ∧ 14 ≤ k.f0 - (rdK l k.f2).f0))))
instance (l : List Kn) (i : Nat) (k : Kn) : Decidable (Fits l i k) := by unfold Fits; exact inferInstance
def Fam (l : List Kn) : Prop := (1 ≤ l.length ∧ l.length ≤ 14) ∧ ∀ i, (h : i < l.length) → Fits l i l[i]
noncomputable def good (l : List Kn) : Bool := dec (Fam l)
theorem good_iff (l : List Kn) : good l = true ↔ Fam l := dec_iff _
theorem good_of (l : List Kn) (h : Fam l) : good l = true := (good_iff l).2 h
theorem good_not (l : List Kn) (h : ¬ Fam l) : good l = false := by
  cases e : good l with
  | true => exact absurd ((good_iff l).1 e) h
  | false => rfl
theorem rdK_int (l : List Kn) (p : Int) (h0 : 0 ≤ p) (h1 : p < (l.length : Int)) : ∃ h : p.toNat < l.length, rd_T49 l p = l[p.toNat] := by
  have h : p.toNat < l.length := by omega
  refine ⟨h, ?_⟩
  have e := rdK_get l p.toNat h
  rw [Int.toNat_of_nonneg h0] at e
  exact e
theorem rdK_take (l : List Kn) (i : Nat) (hi : i ≤ l.length) (p : Int) (h0 : 0 ≤ p) (h1 : p < (i : Int)) : rdK (l.take i) p = rdK l p := by
  obtain ⟨h2, e2⟩ := rdK_int (l.take i) p h0 (by rw [List.length_take]; omega)
  obtain ⟨h3, e3⟩ := rdK_int l p h0 (by omega)
  show rd_T49 _ _ = rd_T49 _ _
  rw [e2, e3, List.getElem_take]
theorem Fits_take (l : List Kn) (i : Nat) (hi : i ≤ l.length) (k : Kn) : Fits (l.take i) i k ↔ Fits l i k := by
  unfold Fits
  refine and_congr_right fun _ => or_congr_right ?_
  by_cases h1 : 0 ≤ k.f1 ∧ k.f1 < (i : Int)
  · rw [rdK_take l i hi _ h1.1 h1.2]
    refine and_congr_right fun _ => or_congr_right ?_
    by_cases h2 : 0 ≤ k.f2 ∧ k.f2 < (i : Int)
    · rw [rdK_take l i hi _ h2.1 h2.2]
    · constructor <;> intro h <;> exact absurd (show 0 ≤ k.f2 ∧ k.f2 < (i : Int) by omega) h2
  · constructor <;> intro h <;> exact absurd ⟨h.1.1, h.1.2.1⟩ h1
def Years (l : List Kn) : Prop := ∀ i, (h : i < l.length) → 0 ≤ l[i].f0 ∧ l[i].f0 ≤ 3000
theorem Years_rd (l : List Kn) (hy : Years l) (p : Int) (h0 : 0 ≤ p) (h1 : p < (l.length : Int)) : 0 ≤ (rdK l p).f0 ∧ (rdK l p).f0 ≤ 3000 := by
  obtain ⟨h, e⟩ := rdK_int l p h0 h1
  show 0 ≤ (rd_T49 l p).f0 ∧ (rd_T49 l p).f0 ≤ 3000
  rw [e]; exact hy _ h
theorem faOlder (b : List Kn) (p born : Int) (hy : Years b) (hb : 0 ≤ born ∧ born ≤ 3000) (hl : b.length ≤ 1073741824) : spec_faOlder.f b p born = some (decide (0 ≤ p ∧ p < (b.length : Int) ∧ 14 ≤ born - (rdK b p).f0)) := by
  unfold spec_faOlder.f
  rw [w64 _ (by omega), l1In]
  simp only [Option.bind_some]
  by_cases h : 0 ≤ p ∧ p ≤ (b.length : Int) - 1
  · have hr : 0 ≤ (rd_T49 b p).f0 ∧ (rd_T49 b p).f0 ≤ 3000 := Years_rd b hy p h.1 (by omega)
    rw [if_pos (by simpa using h), if_pos h.1, if_pos (by omega), w64 _ (by omega)]
    congr 1
    rw [decide_eq_decide]
    constructor
    · intro h1; exact ⟨h.1, by omega, h1⟩
    · intro h1; exact h1.2.2
  · rw [if_neg (by simpa using h)]
    congr 1
    symm
    rw [decide_eq_false_iff_not]
    intro h1
    exact h ⟨h1.1, by omega⟩
theorem faFits (b : List Kn) (k : Kn) (hy : Years b) (hl : b.length ≤ 1073741824) : spec_faFits.f b k.f0 k.f1 k.f2 = some (decide (Fits b b.length k)) := by
  unfold spec_faFits.f
  rw [l1In]
  simp only [Option.bind_some]
  by_cases h0 : 0 ≤ k.f0 ∧ k.f0 ≤ 3000
  · rw [if_pos (by simpa using h0)]
    by_cases h1 : k.f1 = -1
    · rw [if_pos h1]
      congr 1
      rw [Bool.eq_iff_iff, decide_eq_true_iff, beq_iff_eq]
      unfold Fits
      constructor
      · intro h; exact ⟨h0, .inl ⟨h1, h⟩⟩
      · rintro ⟨_, h | h⟩
        · exact h.2
        · omega
    · rw [if_neg h1, faOlder b k.f1 k.f0 hy h0 hl]
      simp only [Option.bind_some]
      by_cases h2 : 0 ≤ k.f1 ∧ k.f1 < (b.length : Int) ∧ 14 ≤ k.f0 - (rdK b k.f1).f0
      · rw [if_pos (by simpa using h2)]
        by_cases h3 : k.f2 = -1
        · rw [if_pos h3]
          congr 1
          symm
          rw [decide_eq_true_iff]
          exact ⟨h0, .inr ⟨h2, .inl h3⟩⟩
        · rw [if_neg h3]
          by_cases h4 : k.f1 < k.f2
          · rw [if_pos h4, faOlder b k.f2 k.f0 hy h0 hl]
            simp only [Option.bind_some]
            congr 1
            rw [decide_eq_decide]
            unfold Fits
            constructor
            · intro h5; exact ⟨h0, .inr ⟨h2, .inr ⟨h4, h5.2.1, h5.2.2⟩⟩⟩
            · rintro ⟨_, h | h⟩
              · omega
              · rcases h.2 with h | h
                · exact absurd h h3
                · exact ⟨by omega, h.2.1, h.2.2⟩
          · rw [if_neg h4]
            congr 1
            symm
            rw [decide_eq_false_iff_not]
            rintro ⟨_, h | h⟩
            · omega
            · rcases h.2 with h | h
              · exact h3 h
              · exact h4 h.1
      · rw [if_neg (by simpa using h2)]
        congr 1
        symm
        rw [decide_eq_false_iff_not]
        rintro ⟨_, h | h⟩
        · omega
        · exact h2 h.1
  · rw [if_neg (by simpa using h0)]
    congr 1
    symm
    rw [decide_eq_false_iff_not]
    exact fun h => h0 h.1
def FamFrom (l : List Kn) (i : Nat) : Prop := ∀ j, i ≤ j → (h : j < l.length) → Fits l j l[j]
theorem FamFrom_step (l : List Kn) (i : Nat) (h : i < l.length) (hf : Fits l i l[i]) : FamFrom l (i + 1) ↔ FamFrom l i := by
  constructor
  · intro h1 j hj hl
    by_cases e : j = i
    · subst e; exact hf
    · exact h1 j (by omega) hl
  · intro h1 j hj hl
    exact h1 j (by omega) hl
def YearsTo (l : List Kn) (i : Nat) : Prop := ∀ j, j < i → (h : j < l.length) → 0 ≤ l[j].f0 ∧ l[j].f0 ≤ 3000
theorem YearsTo_take (l : List Kn) (i : Nat) (h : YearsTo l i) : Years (l.take i) := by
  intro j hj
  rw [List.length_take] at hj
  rw [List.getElem_take]
  exact h j (by omega) (by omega)
theorem YearsTo_step (l : List Kn) (i : Nat) (h : i < l.length) (hf : Fits l i l[i]) (hy : YearsTo l i) : YearsTo l (i + 1) := by
  intro j hj hl
  by_cases e : j = i
  · subst e; exact hf.1
  · exact hy j (by omega) hl
theorem faGood_l (l : List Kn) (hl : l.length ≤ 1073741824) (n : Nat) : ∀ i : Nat, i ≤ l.length → l.length - i ≤ n → YearsTo l i → Ev (fun k => spec_faGood.l0 k l l (l.length : Int) (i : Int)) (dec (FamFrom l i)) := by
  have stop : Ev (fun k => spec_faGood.l0 k l l (l.length : Int) (l.length : Int)) (dec (FamFrom l l.length)) := by
    refine Ev.step (f := fun k => _) (fun k => by rw [spec_faGood.l0]) (ifn (by omega) (evEq now ?_))
    symm
    refine dec_pos ?_
    intro j h1 h2
    omega
  induction n with
  | zero =>
    intro i h1 h2 _
    obtain rfl : i = l.length := by omega
    exact stop
  | succ n ih =>
    intro i h1 h2 hy
    by_cases hi : i < l.length
    · refine Ev.step (f := fun k => _) (fun k => by rw [spec_faGood.l0]) (ifp (by omega) (ifp (by omega) (ifp (by omega) (ifp (by omega) ?_))))
      rw [rdK_get l i hi, Int.toNat_natCast, w64 _ (by omega)]
      have hf := faFits (l.take i) l[i] (YearsTo_take l i hy) (by rw [List.length_take]; omega)
      have e : (l.take i).length = i := by rw [List.length_take]; omega
      rw [e] at hf
      refine call hf ?_
      by_cases hq : Fits l i l[i]
      · refine ifp (by simpa using (Fits_take l i h1 l[i]).2 hq) (evEq (ih (i + 1) (by omega) (by omega) (YearsTo_step l i hi hq hy)) ?_)
        exact dec_congr (FamFrom_step l i hi hq)
      · refine ifn (by simpa using fun h => hq ((Fits_take l i h1 l[i]).1 h)) (evEq now ?_)
        symm
        exact dec_neg fun h => hq (h i (Nat.le_refl _) hi)
    · obtain rfl : i = l.length := by omega
      exact stop
theorem faGood (l : List Kn) (hl : l.length ≤ 1073741824) : Ev (fun k => spec_faGood.f k l) (good l) := by
  unfold spec_faGood.f
  refine call (l1In _ _ _) ?_
  by_cases h : 1 ≤ l.length ∧ l.length ≤ 14
  · refine ifp (by simp; omega) (evEq (faGood_l l hl _ 0 (by omega) (Nat.le_refl _) (fun j hj => absurd hj (Nat.not_lt_zero _))) ?_)
    refine dec_congr ?_
    constructor
    · intro h1; exact ⟨h, fun i hi => h1 i (by omega) hi⟩
    · intro h1 j _ hj; exact h1.2 j hj
  · refine ifn (by simp; omega) (evEq now ?_)
    rw [good_not l fun h1 => h h1.1]
end Go.Proofs.Ytllihaahppelhaa.Pr
namespace Go.Proofs.Ytllihaahppelhaa.Pr
open Go.RowKit Go.Proofs.Ytllihaahppelhaa.P Go.Proofs.YtllihaahppelhaaW.PrintWords Go.Proofs.Ytllihaahppelhaa.E
/-- The program's tests of one of the kin. -/
def Own (i : Nat) (k : Kn) : Prop := (0 ≤ k.f0 ∧ k.f0 ≤ 3000) ∧ (-1 ≤ k.f1 ∧ k.f1 ≤ (i : Int) - 1) ∧ (-1 ≤ k.f2 ∧ k.f2 ≤ (i : Int) - 1) ∧ ¬ (0 ≤ k.f2 ∧ k.f2 ≤ k.f1) ∧ ¬ (k.f1 < 0 ∧ 0 ≤ k.f2)
theorem Fits_own (l : List Kn) (i : Nat) (k : Kn) : Fits l i k ↔ Own i k ∧ ∀ p ∈ ps k, (rdK l p).f0 + 14 ≤ k.f0 := by
  unfold Fits Own
  simp only [mem_ps]
  constructor
  · rintro ⟨h0, h | ⟨h1, h2⟩⟩
    · refine ⟨⟨h0, by omega, by omega, by omega, by omega⟩, ?_⟩
      rintro p ⟨h3 | h3, h4⟩ <;> omega
    · rcases h2 with h2 | h2
      · refine ⟨⟨h0, by omega, by omega, by omega, by omega⟩, ?_⟩
        rintro p ⟨h3 | h3, h4⟩
        · subst h3; omega
        · omega
      · refine ⟨⟨h0, by omega, by omega, by omega, by omega⟩, ?_⟩
        rintro p ⟨h3 | h3, h4⟩
        · subst h3; omega
        · subst h3; omega
  · rintro ⟨⟨h0, h1, h2, h3, h4⟩, h5⟩
    refine ⟨h0, ?_⟩
    by_cases e : k.f1 = -1
    · exact .inl ⟨e, by omega⟩
    · refine .inr ⟨⟨by omega, by omega, ?_⟩, ?_⟩
      · have := h5 k.f1 ⟨.inl rfl, by omega⟩
        omega
      · by_cases e2 : k.f2 = -1
        · exact .inl e2
        · refine .inr ⟨by omega, by omega, ?_⟩
          have := h5 k.f2 ⟨.inr rfl, by omega⟩
          omega
theorem isFamily_l1 (l : List Kn) (i : Nat) (k : Kn) (r : Bool) (L : List Int) (hi : i < l.length) (hL : L.length ≤ 2) (hy : YearsTo l i) (hv : ∀ p ∈ L, 0 ≤ p ∧ p < (i : Int)) (hr : Ev (fun n => impl_IsFamily.l0 n l l (l.length : Int) (wrap64 ((i : Int) + 1))) r) (n : Nat) :
    ∀ j : Nat, j ≤ L.length → L.length - j ≤ n → Ev (fun n => impl_IsFamily.l1 n l l (l.length : Int) (i : Int) L (L.length : Int) (j : Int) k.f0 k.f1 k.f2) (if (∀ p ∈ L.drop j, (rdK l p).f0 + 14 ≤ k.f0) then r else false) := by
  have stop : Ev (fun n => impl_IsFamily.l1 n l l (l.length : Int) (i : Int) L (L.length : Int) (L.length : Int) k.f0 k.f1 k.f2) (if (∀ p ∈ L.drop L.length, (rdK l p).f0 + 14 ≤ k.f0) then r else false) := by
    rw [if_pos (by simp)]
    exact Ev.step (f := fun k => _) (fun k => by rw [impl_IsFamily.l1]) (ifn (by omega) hr)
  induction n with
  | zero =>
    intro j h1 h2
    obtain rfl : j = L.length := by omega
    exact stop
  | succ n ih =>
    intro j h1 h2
    by_cases hj : j < L.length
    · have hp := hv L[j] (List.getElem_mem hj)
      have hb : 0 ≤ (rd_T49 l L[j]).f0 ∧ (rd_T49 l L[j]).f0 ≤ 3000 := by
        obtain ⟨h3, e3⟩ := rdK_int l L[j] hp.1 (by omega)
        rw [e3]; exact hy _ (by omega) h3
      refine Ev.step (f := fun k => _) (fun k => by rw [impl_IsFamily.l1]) (ifp (by omega) (ifp (by omega) (ifp (by omega) ?_)))
      rw [rdI L j hj, w64 (j + 1) (by omega), w64 _ (by omega)]
      refine ifp hp.1 (ifp (by omega) ?_)
      have e : (∀ p ∈ L.drop j, (rdK l p).f0 + 14 ≤ k.f0) ↔ (rdK l L[j]).f0 + 14 ≤ k.f0 ∧ ∀ p ∈ L.drop (j + 1), (rdK l p).f0 + 14 ≤ k.f0 := by
        rw [List.drop_eq_getElem_cons hj]
        simp only [List.mem_cons, forall_eq_or_imp]
      by_cases h3 : (rdK l L[j]).f0 + 14 ≤ k.f0
      · have h3' : (rd_T49 l L[j]).f0 + 14 ≤ k.f0 := h3
        refine ifn (by omega) (evEq (ih (j + 1) (by omega) (by omega)) ?_)
        simp only [e, h3, true_and]
      · have h3' : ¬ (rd_T49 l L[j]).f0 + 14 ≤ k.f0 := h3
        refine ifp (by omega) (evEq now ?_)
        rw [if_neg (fun h => h3 (e.1 h).1)]
    · obtain rfl : j = L.length := by omega
      exact stop
theorem isFamily_j1 (l : List Kn) (i : Nat) (k : Kn) (x r : Bool) (hi : i < l.length) (hy : YearsTo l i) (h0 : 0 ≤ k.f0 ∧ k.f0 ≤ 3000) (h1 : -1 ≤ k.f1 ∧ k.f1 ≤ (i : Int) - 1) (h2 : -1 ≤ k.f2 ∧ k.f2 ≤ (i : Int) - 1) (hx : x = decide ((0 ≤ k.f2 ∧ k.f2 ≤ k.f1) ∨ (k.f1 < 0 ∧ 0 ≤ k.f2)))
    (hr : Ev (fun n => impl_IsFamily.l0 n l l (l.length : Int) (wrap64 ((i : Int) + 1))) r) : Ev (fun n => impl_IsFamily.j1 n l l (l.length : Int) (i : Int) x k.f0 k.f1 k.f2) (if Fits l i k then r else false) := by
  refine Ev.step (f := fun k => _) (fun k => by rw [impl_IsFamily.j1]) ?_
  subst hx
  by_cases h : (0 ≤ k.f2 ∧ k.f2 ≤ k.f1) ∨ (k.f1 < 0 ∧ 0 ≤ k.f2)
  · refine ifp (by simpa using h) (evEq now ?_)
    rw [if_neg]
    intro h3
    have := ((Fits_own l i k).1 h3).1
    unfold Own at this
    rcases h with h | h
    · exact this.2.2.2.1 h
    · exact this.2.2.2.2 h
  · refine ifn (by simpa using h) (call (parents_f k) ?_)
    have h4 := isFamily_l1 l i k r (ps k) hi (ps_len k) hy (fun p hp => by rw [mem_ps] at hp; omega) hr _ 0 (by omega) (Nat.le_refl _)
    refine evEq h4 ?_
    have e : (∀ p ∈ (ps k).drop 0, (rdK l p).f0 + 14 ≤ k.f0) ↔ Fits l i k := by
      rw [Fits_own, List.drop_zero]
      constructor
      · intro h5; exact ⟨⟨h0, h1, h2, fun h6 => h (.inl h6), fun h6 => h (.inr h6)⟩, h5⟩
      · exact fun h5 => h5.2
    simp only [e]
theorem isFamily_l (l : List Kn) (hl : l.length ≤ 1073741824) (n : Nat) : ∀ i : Nat, i ≤ l.length → l.length - i ≤ n → YearsTo l i → Ev (fun k => impl_IsFamily.l0 k l l (l.length : Int) (i : Int)) (dec (FamFrom l i)) := by
  have stop : Ev (fun k => impl_IsFamily.l0 k l l (l.length : Int) (l.length : Int)) (dec (FamFrom l l.length)) := by
    refine Ev.step (f := fun k => _) (fun k => by rw [impl_IsFamily.l0]) (ifn (by omega) (evEq now ?_))
    symm
    refine dec_pos ?_
    intro j h1 h2
    omega
  induction n with
  | zero =>
    intro i h1 h2 _
    obtain rfl : i = l.length := by omega
    exact stop
  | succ n ih =>
    intro i h1 h2 hy
    by_cases hi : i < l.length
    · have key : Ev (fun k => impl_IsFamily.l0 k l l (l.length : Int) (i : Int)) (if Fits l i l[i] then dec (FamFrom l (i + 1)) else false) ∨ Ev (fun k => impl_IsFamily.l0 k l l (l.length : Int) (i : Int)) (if Fits l i l[i] then dec (FamFrom l i) else false) := by
        generalize hk : l[i] = k
        have go : ∀ x : Bool, x = decide ((0 ≤ k.f2 ∧ k.f2 ≤ k.f1) ∨ (k.f1 < 0 ∧ 0 ≤ k.f2)) → (0 ≤ k.f0 ∧ k.f0 ≤ 3000) → (-1 ≤ k.f1 ∧ k.f1 ≤ (i : Int) - 1) → (-1 ≤ k.f2 ∧ k.f2 ≤ (i : Int) - 1) →
            Ev (fun n => impl_IsFamily.j1 n l l (l.length : Int) (i : Int) x k.f0 k.f1 k.f2) (if Fits l i k then dec (FamFrom l i) else false) := by
          intro x hx a0 a1 a2
          by_cases hf : Fits l i k
          · have h3 := ih (i + 1) (by omega) (by omega) (YearsTo_step l i hi (by rw [hk]; exact hf) hy)
            rw [show ((i + 1 : Nat) : Int) = wrap64 ((i : Int) + 1) by rw [w64 _ (by omega)]; rfl] at h3
            refine evEq (isFamily_j1 l i k x _ hi hy a0 a1 a2 hx h3) ?_
            rw [if_pos hf, if_pos hf]
            exact dec_congr (FamFrom_step l i hi (by rw [hk]; exact hf))
          · refine Ev.step (f := fun k => _) (fun k => by rw [impl_IsFamily.j1]) ?_
            subst hx
            rw [if_neg hf]
            by_cases h : (0 ≤ k.f2 ∧ k.f2 ≤ k.f1) ∨ (k.f1 < 0 ∧ 0 ≤ k.f2)
            · exact ifp (by simpa using h) now
            · refine ifn (by simpa using h) (call (parents_f k) ?_)
              have hex : ∃ j : Nat, j ≤ (ps k).length ∧ True := ⟨0, by omega, trivial⟩
              clear hex
              have nf : ¬ ∀ p ∈ ps k, (rdK l p).f0 + 14 ≤ k.f0 := fun h5 => hf ((Fits_own l i k).2 ⟨⟨a0, a1, a2, fun h6 => h (.inl h6), fun h6 => h (.inr h6)⟩, h5⟩)
              have stuck : ∀ (n : Nat) (j : Nat), j ≤ (ps k).length → (ps k).length - j ≤ n → (¬ ∀ p ∈ (ps k).drop j, (rdK l p).f0 + 14 ≤ k.f0) → Ev (fun n => impl_IsFamily.l1 n l l (l.length : Int) (i : Int) (ps k) ((ps k).length : Int) (j : Int) k.f0 k.f1 k.f2) false := by
                intro n
                induction n with
                | zero =>
                  intro j h1 h2 h3
                  exact absurd (by rw [List.drop_eq_nil_of_le (by omega)]; simp) h3
                | succ n ih2 =>
                  intro j h1 h2 h3
                  by_cases hj : j < (ps k).length
                  · have hL := ps_len k
                    have hp : 0 ≤ (ps k)[j] ∧ (ps k)[j] < (i : Int) := by
                      have := (mem_ps k (ps k)[j]).1 (List.getElem_mem hj)
                      omega
                    have hb : 0 ≤ (rd_T49 l (ps k)[j]).f0 ∧ (rd_T49 l (ps k)[j]).f0 ≤ 3000 := by
                      obtain ⟨h3, e3⟩ := rdK_int l (ps k)[j] hp.1 (by omega)
                      rw [e3]; exact hy _ (by omega) h3
                    refine Ev.step (f := fun k => _) (fun k => by rw [impl_IsFamily.l1]) (ifp (by omega) (ifp (by omega) (ifp (by omega) ?_)))
                    rw [rdI (ps k) j hj, w64 (j + 1) (by omega), w64 _ (by omega)]
                    refine ifp hp.1 (ifp (by omega) ?_)
                    by_cases h4 : (rdK l (ps k)[j]).f0 + 14 ≤ k.f0
                    · have h4' : (rd_T49 l (ps k)[j]).f0 + 14 ≤ k.f0 := h4
                      refine ifn (by omega) (ih2 (j + 1) (by omega) (by omega) ?_)
                      intro h5
                      apply h3
                      rw [List.drop_eq_getElem_cons hj]
                      simp only [List.mem_cons, forall_eq_or_imp]
                      exact ⟨h4, h5⟩
                    · have h4' : ¬ (rd_T49 l (ps k)[j]).f0 + 14 ≤ k.f0 := h4
                      exact ifp (by omega) now
                  · exact absurd (by rw [List.drop_eq_nil_of_le (by omega)]; simp) h3
              exact stuck _ 0 (by omega) (Nat.le_refl _) (by simpa using nf)
        have bad : ¬ Fits l i k → (false : Bool) = (if Fits l i k then dec (FamFrom l i) else false) := fun h => by rw [if_neg h]
        refine .inr (Ev.step (f := fun k => _) (fun k => by rw [impl_IsFamily.l0]) (ifp (by omega) (ifp (by omega) (ifp (by omega) ?_))))
        rw [rdK_get l i hi, hk, w64 ((i : Int) - 1) (by omega)]
        refine call (between _ _ _) ?_
        by_cases a0 : 0 ≤ k.f0 ∧ k.f0 ≤ 3000
        · refine ifp (by simpa using a0) (call (between _ _ _) ?_)
          by_cases a1 : -1 ≤ k.f1 ∧ k.f1 ≤ (i : Int) - 1
          · refine ifp (by simpa using a1) (call (between _ _ _) ?_)
            by_cases a2 : -1 ≤ k.f2 ∧ k.f2 ≤ (i : Int) - 1
            · refine ifp (by simpa using a2) ?_
              by_cases b0 : k.f2 ≥ 0
              · refine ifp b0 ?_
                by_cases b1 : k.f2 ≤ k.f1
                · exact ifp b1 (go _ (by symm; rw [decide_eq_true_iff]; omega) a0 a1 a2)
                · refine ifn b1 ?_
                  by_cases b2 : k.f1 < 0
                  · exact ifp b2 (go _ (by rw [decide_eq_decide]; omega) a0 a1 a2)
                  · exact ifn b2 (go _ (by symm; rw [decide_eq_false_iff_not]; omega) a0 a1 a2)
              · refine ifn b0 ?_
                by_cases b2 : k.f1 < 0
                · exact ifp b2 (go _ (by rw [decide_eq_decide]; omega) a0 a1 a2)
                · exact ifn b2 (go _ (by symm; rw [decide_eq_false_iff_not]; omega) a0 a1 a2)
            · refine ifn (by simpa using a2) ?_
              have nf : ¬ Fits l i k := fun h => a2 ((Fits_own l i k).1 h).1.2.2.1
              refine Ev.step (f := fun k => _) (fun k => by rw [impl_IsFamily.j1]) (ifp rfl (evEq now (bad nf)))
          · refine ifn (by simpa using a1) ?_
            have nf : ¬ Fits l i k := fun h => a1 ((Fits_own l i k).1 h).1.2.1
            refine Ev.step (f := fun k => _) (fun k => by rw [impl_IsFamily.j1]) (ifp rfl (evEq now (bad nf)))
        · refine ifn (by simpa using a0) ?_
          have nf : ¬ Fits l i k := fun h => a0 h.1
          refine Ev.step (f := fun k => _) (fun k => by rw [impl_IsFamily.j1]) (ifp rfl (evEq now (bad nf)))
      rcases key with key | key
      · refine evEq key ?_
        by_cases hf : Fits l i l[i]
        · rw [if_pos hf]; exact dec_congr (FamFrom_step l i hi hf)
        · rw [if_neg hf]; symm; exact dec_neg fun h => hf (h i (Nat.le_refl _) hi)
      · refine evEq key ?_
        by_cases hf : Fits l i l[i]
        · rw [if_pos hf]
        · rw [if_neg hf]; symm; exact dec_neg fun h => hf (h i (Nat.le_refl _) hi)
    · obtain rfl : i = l.length := by omega
      exact stop
theorem isFamily (l : List Kn) (hl : l.length ≤ 1073741824) : Ev (fun k => impl_IsFamily.f k l) (good l) := by
  unfold impl_IsFamily.f
  refine call (between _ _ _) ?_
  by_cases h : 1 ≤ l.length ∧ l.length ≤ 14
  · refine ifp (by simp; omega) (evEq (isFamily_l l hl _ 0 (by omega) (Nat.le_refl _) (fun j hj => absurd hj (Nat.not_lt_zero _))) ?_)
    refine dec_congr ?_
    constructor
    · intro h1; exact ⟨h, fun i hi => h1 i (by omega) hi⟩
    · intro h1 j _ hj; exact h1.2 j hj
  · refine ifn (by simp; omega) (evEq now ?_)
    rw [good_not l fun h1 => h h1.1]
end Go.Proofs.Ytllihaahppelhaa.Pr
namespace Go.Proofs.Ytllihaahppelhaa.Pr
open Go.RowKit Go.Proofs.Ytllihaahppelhaa.P Go.Proofs.YtllihaahppelhaaW.PrintWords Go.Proofs.Ytllihaahppelhaa.E
theorem faParents_l (L : List Int) (hL : L.length ≤ 1000) (n : Nat) : ∀ (i : Nat) (acc : List Int), i ≤ L.length → L.length - i ≤ n → acc.length ≤ i →
    Ev (fun k => spec_faParents.l0 k acc L (L.length : Int) (i : Int)) (acc ++ (L.drop i).filter fun x => !decide (x < 0)) := by
  induction n with
  | zero =>
    intro i acc h1 h2 h3
    obtain rfl : i = L.length := by omega
    refine Ev.step (f := fun k => _) (fun k => by rw [spec_faParents.l0]) (ifn (by omega) (evEq now ?_))
    simp
  | succ n ih =>
    intro i acc h1 h2 h3
    by_cases hi : i < L.length
    · refine Ev.step (f := fun k => _) (fun k => by rw [spec_faParents.l0]) (ifp (by omega) (ifp (by omega) (ifp (by omega) ?_)))
      rw [rdI L i hi, w64 _ (by omega), List.drop_eq_getElem_cons hi]
      by_cases hx : L[i] ≥ 0
      · refine ifp hx (ifp (by omega) (evEq (ih (i + 1) (acc ++ [L[i]]) (by omega) (by omega) (by simp; omega)) ?_))
        rw [List.filter_cons_of_pos (by simpa using hx)]
        simp
      · refine ifn hx (evEq (ih (i + 1) acc (by omega) (by omega) (by omega)) ?_)
        rw [List.filter_cons_of_neg (by simp; omega)]
    · obtain rfl : i = L.length := by omega
      refine Ev.step (f := fun k => _) (fun k => by rw [spec_faParents.l0]) (ifn (by omega) (evEq now ?_))
      simp
theorem faParents (l : List Kn) (i : Nat) (hi : i < l.length) : Ev (fun k => spec_faParents.f k l (i : Int)) (ps l[i]) := by
  unfold spec_faParents.f
  refine ifp (by omega) (ifp (by omega) ?_)
  rw [rdK_get l i hi]
  exact faParents_l [l[i].f1, l[i].f2] (by simp) _ 0 [] (by omega) (Nat.le_refl _) (by simp)
end Go.Proofs.Ytllihaahppelhaa.Pr
namespace Go.Proofs.Ytllihaahppelhaa.Pr
open Go.RowKit Go.Proofs.Ytllihaahppelhaa.P Go.Proofs.YtllihaahppelhaaW.PrintWords Go.Proofs.Ytllihaahppelhaa.E
/-- The parents of somebody. -/
abbrev pp (l : List Kn) (i : Int) : List Int := ps (rdK l i)
theorem faParentsI (l : List Kn) (i : Int) (h : 0 ≤ i ∧ i < (l.length : Int)) : Ev (fun k => spec_faParents.f k l i) (pp l i) := by
  obtain ⟨h2, e2⟩ := rdK_int l i h.1 h.2
  have := faParents l i.toNat h2
  rw [Int.toNat_of_nonneg h.1] at this
  show Ev _ (ps (rd_T49 l i))
  rw [e2]
  exact this
theorem Fam_pp (l : List Kn) (hf : Fam l) (i p : Int) (hi : 0 ≤ i ∧ i < (l.length : Int)) (hp : p ∈ pp l i) : 0 ≤ p ∧ p < i := by
  obtain ⟨h2, e2⟩ := rdK_int l i hi.1 hi.2
  change p ∈ ps (rd_T49 l i) at hp
  rw [e2] at hp
  have h3 := hf.2 _ h2
  have h4 := (mem_ps _ p).1 hp
  unfold Fits at h3
  omega
end Go.Proofs.Ytllihaahppelhaa.Pr
namespace Go.Proofs.Ytllihaahppelhaa.Pr
open Go.RowKit Go.Proofs.Ytllihaahppelhaa.P Go.Proofs.YtllihaahppelhaaW.PrintWords Go.Proofs.Ytllihaahppelhaa.E
theorem mx_eq (a b : Int) : mx a b = max a b := by unfold mx; split <;> omega
theorem most_eq (a b : Int) : spec_l1Most.f a b = some (max a b) := by
  unfold spec_l1Most.f
  by_cases h : a > b
  · rw [if_pos h, show max a b = a by omega]
  · rw [if_neg h, show max a b = b by omega]
end Go.Proofs.Ytllihaahppelhaa.Pr
namespace Go.Proofs.Ytllihaahppelhaa.Pr
open Go.RowKit Go.Proofs.Ytllihaahppelhaa.P Go.Proofs.YtllihaahppelhaaW.PrintWords Go.Proofs.Ytllihaahppelhaa.E
def top (g : List Int) (L : List Int) (m : Int) : Int := L.foldl (fun m p => max m (rd g p + 1)) m
def gens (l : List Kn) : Nat → List Int
  | 0 => []
  | n + 1 => gens l n ++ [top (gens l n) (pp l n) 0]
theorem gens_len (l : List Kn) (n : Nat) : (gens l n).length = n := by
  induction n with
  | zero => rfl
  | succ n ih => rw [gens, List.length_append, ih]; rfl
theorem gens_old (l : List Kn) (n : Nat) (p : Int) (h : 0 ≤ p ∧ p < (n : Int)) : rd (gens l (n + 1)) p = rd (gens l n) p := by
  have h2 : p.toNat < (gens l n).length := by rw [gens_len]; omega
  unfold rd
  rw [gens]
  simp only [List.getD_eq_getElem?_getD]
  rw [List.getElem?_append_left h2]
theorem gens_new (l : List Kn) (n : Nat) : rd (gens l (n + 1)) (n : Int) = top (gens l n) (pp l n) 0 := by
  rw [rdI _ n (by rw [gens_len]; omega)]
  have : (gens l (n + 1))[n]'(by rw [gens_len]; omega) = (gens l n ++ [top (gens l n) (pp l n) 0])[n]'(by rw [List.length_append, gens_len, List.length_singleton]; omega) := rfl
  rw [this, List.getElem_append_right (by rw [gens_len]; omega)]
  simp [gens_len]
theorem gens_same (l : List Kn) (n m : Nat) (p : Int) (h : 0 ≤ p ∧ p < (n : Int)) : rd (gens l (n + m)) p = rd (gens l n) p := by
  induction m with
  | zero => rfl
  | succ m ih => rw [show n + (m + 1) = (n + m) + 1 by omega, gens_old l (n + m) p (by omega), ih]
theorem top_bound (g : List Int) (B : Int) (L : List Int) (h : ∀ p ∈ L, 0 ≤ rd g p ∧ rd g p + 1 ≤ B) : ∀ m : Int, 0 ≤ m ∧ m ≤ B → 0 ≤ top g L m ∧ top g L m ≤ B := by
  induction L with
  | nil => intro m hm; exact hm
  | cons a L ih =>
    intro m hm
    have ha := h a (List.mem_cons_self ..)
    exact ih (fun p hp => h p (List.mem_cons_of_mem _ hp)) (max m (rd g a + 1)) (by omega)
theorem gens_bound (l : List Kn) (hf : Fam l) (n : Nat) (hn : n ≤ l.length) : ∀ p : Int, 0 ≤ p ∧ p < (n : Int) → 0 ≤ rd (gens l n) p ∧ rd (gens l n) p ≤ p := by
  induction n with
  | zero => intro p hp; omega
  | succ n ih =>
    intro p hp
    by_cases h : p = (n : Int)
    · subst h
      rw [gens_new]
      refine top_bound _ _ _ ?_ 0 (by omega)
      intro q hq
      have h1 := Fam_pp l hf n q (by omega) hq
      have h2 := ih (by omega) q h1
      omega
    · rw [gens_old l n p (by omega)]
      exact ih (by omega) p (by omega)
theorem faGen_l1 (l : List Kn) (hf : Fam l) (i : Nat) (hi : i < l.length) (r : List Int) (L : List Int) (hL : L.length ≤ 1000) (hv : ∀ p ∈ L, 0 ≤ p ∧ p < (i : Int))
    (n : Nat) : ∀ (j : Nat) (m : Int), j ≤ L.length → L.length - j ≤ n → 0 ≤ m ∧ m ≤ i → Ev (fun k => spec_faGenerations.l0 k l (gens l i ++ [top (gens l i) (L.drop j) m]) (l.length : Int) (wrap64 ((i : Int) + 1))) r → Ev (fun k => spec_faGenerations.l1 k l (gens l i) m (l.length : Int) (i : Int) L (L.length : Int) (j : Int)) r := by
  have h14 := hf.1.2
  have stop : ∀ m : Int, Ev (fun k => spec_faGenerations.l0 k l (gens l i ++ [top (gens l i) (L.drop L.length) m]) (l.length : Int) (wrap64 ((i : Int) + 1))) r → Ev (fun k => spec_faGenerations.l1 k l (gens l i) m (l.length : Int) (i : Int) L (L.length : Int) (L.length : Int)) r := by
    intro m hr
    refine Ev.step (f := fun k => _) (fun k => by rw [spec_faGenerations.l1]) (ifn (by omega) (ifp (by rw [gens_len]; omega) ?_))
    rw [List.drop_length] at hr
    exact hr
  induction n with
  | zero =>
    intro j m h1 h2 h3 hr
    obtain rfl : j = L.length := by omega
    exact stop m hr
  | succ n ih =>
    intro j m h1 h2 h3 hr
    by_cases hj : j < L.length
    · have hp := hv L[j] (List.getElem_mem hj)
      have hb := gens_bound l hf i (by omega) L[j] hp
      refine Ev.step (f := fun k => _) (fun k => by rw [spec_faGenerations.l1]) (ifp (by omega) (ifp (by omega) (ifp (by omega) ?_)))
      rw [rdI L j hj]
      refine ifp hp.1 (ifp (by rw [gens_len]; omega) ?_)
      rw [w64 (rd (gens l i) L[j] + 1) (by omega), w64 _ (by omega)]
      refine call (most_eq _ _) (ih (j + 1) _ (by omega) (by omega) (by omega) ?_)
      rw [List.drop_eq_getElem_cons hj] at hr
      exact hr
    · obtain rfl : j = L.length := by omega
      exact stop m hr
theorem faGen_l (l : List Kn) (hf : Fam l) (n : Nat) : ∀ i : Nat, i ≤ l.length → l.length - i ≤ n → Ev (fun k => spec_faGenerations.l0 k l (gens l i) (l.length : Int) (i : Int)) (gens l l.length) := by
  have h14 := hf.1.2
  have stop : Ev (fun k => spec_faGenerations.l0 k l (gens l l.length) (l.length : Int) (l.length : Int)) (gens l l.length) := by
    refine Ev.step (f := fun k => _) (fun k => by rw [spec_faGenerations.l0]) (ifn (by omega) (evEq now ?_))
    rfl
  induction n with
  | zero =>
    intro i h1 h2
    obtain rfl : i = l.length := by omega
    exact stop
  | succ n ih =>
    intro i h1 h2
    by_cases hi : i < l.length
    · refine Ev.step (f := fun k => _) (fun k => by rw [spec_faGenerations.l0]) (ifp (by omega) ?_)
      refine Ev.bind (faParentsI l i (by omega)) ?_
      refine faGen_l1 l hf i hi _ (pp l i) (Nat.le_trans (ps_len _) (by decide)) (fun p hp => by have := Fam_pp l hf i p (by omega) hp; omega) _ 0 0 (by omega) (Nat.le_refl _) (by omega) ?_
      have := ih (i + 1) (by omega) (by omega)
      rw [gens] at this
      rw [w64 _ (by omega)]
      exact this
    · obtain rfl : i = l.length := by omega
      exact stop
theorem faGenerations (l : List Kn) (hf : Fam l) : Ev (fun k => spec_faGenerations.f k l) (gens l l.length) := faGen_l l hf _ 0 (by omega) (Nat.le_refl _)
theorem generation_l (l : List Kn) (hf : Fam l) (i : Nat) (hi : i < l.length) (ih : ∀ p : Int, 0 ≤ p ∧ p < (i : Int) → Ev (fun k => impl_generation.f k l p) (rd (gens l i) p)) (L : List Int) (hL : L.length ≤ 1000) (hv : ∀ p ∈ L, 0 ≤ p ∧ p < (i : Int))
    (n : Nat) : ∀ (j : Nat) (m : Int), j ≤ L.length → L.length - j ≤ n → 0 ≤ m ∧ m ≤ i → Ev (fun k => impl_generation.l0 k l m L (L.length : Int) (j : Int)) (top (gens l i) (L.drop j) m) := by
  have h14 := hf.1.2
  have stop : ∀ m : Int, Ev (fun k => impl_generation.l0 k l m L (L.length : Int) (L.length : Int)) (top (gens l i) (L.drop L.length) m) := by
    intro m
    refine Ev.step (f := fun k => _) (fun k => by rw [impl_generation.l0]) (ifn (by omega) (evEq now ?_))
    rw [List.drop_length]
    rfl
  induction n with
  | zero =>
    intro j m h1 h2 h3
    obtain rfl : j = L.length := by omega
    exact stop m
  | succ n ih2 =>
    intro j m h1 h2 h3
    by_cases hj : j < L.length
    · have hp := hv L[j] (List.getElem_mem hj)
      have hb := gens_bound l hf i (by omega) L[j] hp
      refine Ev.step (f := fun k => _) (fun k => by rw [impl_generation.l0]) (ifp (by omega) (ifp (by omega) (ifp (by omega) ?_)))
      rw [rdI L j hj]
      refine Ev.bind (ih L[j] hp) ?_
      rw [w64 (rd (gens l i) L[j] + 1) (by omega), w64 _ (by omega), mx_eq, List.drop_eq_getElem_cons hj]
      exact ih2 (j + 1) _ (by omega) (by omega) (by omega)
    · obtain rfl : j = L.length := by omega
      exact stop m
theorem generation_n (l : List Kn) (hf : Fam l) (n : Nat) : ∀ i : Nat, i < n → i < l.length → Ev (fun k => impl_generation.f k l (i : Int)) (rd (gens l (i + 1)) (i : Int)) := by
  induction n with
  | zero => intro i h; omega
  | succ n ih =>
    intro i h hi
    refine Ev.step (f := fun k => _) (fun k => by rw [impl_generation.f]) (ifp (by omega) (ifp (by omega) ?_))
    refine call (parents_f (rdK l i)) ?_
    rw [gens_new]
    refine generation_l l hf i hi ?_ (pp l i) (Nat.le_trans (ps_len _) (by decide)) (fun p hp => by have := Fam_pp l hf i p (by omega) hp; omega) _ 0 0 (by omega) (Nat.le_refl _) (by omega)
    intro p hp
    have h1 := ih p.toNat (by omega) (by omega)
    rw [show ((p.toNat : Nat) : Int) = p by omega] at h1
    have h2 := gens_same l (p.toNat + 1) (i - (p.toNat + 1)) p (by omega)
    rw [show p.toNat + 1 + (i - (p.toNat + 1)) = i by omega] at h2
    rw [h2]
    exact h1
theorem generation (l : List Kn) (hf : Fam l) (i : Int) (h : 0 ≤ i ∧ i < (l.length : Int)) : Ev (fun k => impl_generation.f k l i) (rd (gens l l.length) i) := by
  have h1 := generation_n l hf (i.toNat + 1) i.toNat (by omega) (by omega)
  rw [show ((i.toNat : Nat) : Int) = i by omega] at h1
  have h2 := gens_same l (i.toNat + 1) (l.length - (i.toNat + 1)) i (by omega)
  rw [show i.toNat + 1 + (l.length - (i.toNat + 1)) = l.length by omega] at h2
  rw [h2]
  exact h1
end Go.Proofs.Ytllihaahppelhaa.Pr
namespace Go.Proofs.Ytllihaahppelhaa.Pr
open Go.RowKit Go.Proofs.Ytllihaahppelhaa.P Go.Proofs.YtllihaahppelhaaW.PrintWords Go.Proofs.Ytllihaahppelhaa.E
theorem top_att (g L : List Int) : ∀ m : Int, top g L m = m ∨ ∃ p ∈ L, top g L m = rd g p + 1 := by
  induction L with
  | nil => intro m; exact .inl rfl
  | cons a L ih =>
    intro m
    rcases ih (max m (rd g a + 1)) with h | ⟨p, hp, h⟩
    · have h' : top g (a :: L) m = max m (rd g a + 1) := h
      by_cases hm : rd g a + 1 ≤ m
      · left; rw [h']; omega
      · right; exact ⟨a, List.mem_cons_self .., by rw [h']; omega⟩
    · exact .inr ⟨p, List.mem_cons_of_mem _ hp, h⟩
def lv (l : List Kn) (i : Nat) : Nat := (rd (gens l l.length) (i : Int)).toNat
theorem lv_gen (l : List Kn) (hf : Fam l) (i : Nat) (hi : i < l.length) : rd (gens l l.length) (i : Int) = (lv l i : Int) ∧ lv l i ≤ i := by
  have := gens_bound l hf l.length (Nat.le_refl _) (i : Int) (by omega)
  unfold lv
  omega
theorem lv_prev (l : List Kn) (hf : Fam l) (i : Nat) (hi : i < l.length) (h : 0 < lv l i) : ∃ p, p < i ∧ lv l p + 1 = lv l i := by
  have h1 := (lv_gen l hf i hi).1
  have h2 := gens_same l (i + 1) (l.length - (i + 1)) (i : Int) (by omega)
  rw [show i + 1 + (l.length - (i + 1)) = l.length by omega, gens_new] at h2
  rcases top_att (gens l i) (pp l i) 0 with h3 | ⟨p, hp, h3⟩
  · omega
  · have h4 := Fam_pp l hf i p (by omega) hp
    obtain ⟨q, rfl⟩ := Int.eq_ofNat_of_zero_le h4.1
    have h5 := gens_same l i (l.length - i) (q : Int) (by omega)
    rw [show i + (l.length - i) = l.length by omega] at h5
    have h6 := (lv_gen l hf q (by omega)).1
    exact ⟨q, by omega, by omega⟩
def hs (l : List Kn) : Nat → Nat
  | 0 => 0
  | n + 1 => max (hs l n) (lv l n + 1)
theorem hs_lt (l : List Kn) (n : Nat) : ∀ i, i < n → lv l i < hs l n := by
  induction n with
  | zero => intro i h; omega
  | succ n ih =>
    intro i h
    rw [hs]
    by_cases e : i = n
    · subst e; omega
    · have := ih i (by omega); omega
theorem lv_hs (l : List Kn) (hf : Fam l) (n : Nat) (h : n < l.length) : lv l n ≤ hs l n := by
  by_cases h0 : 0 < lv l n
  · obtain ⟨p, hp, e⟩ := lv_prev l hf n h h0
    have := hs_lt l n p hp
    omega
  · omega
theorem hs_le (l : List Kn) (hf : Fam l) (n : Nat) (h : n ≤ l.length) : hs l n ≤ n := by
  induction n with
  | zero => exact Nat.le_refl _
  | succ n ih =>
    have h1 := ih (by omega)
    have h2 := (lv_gen l hf n (by omega)).2
    rw [hs]; omega
theorem hs_hit (l : List Kn) (hf : Fam l) (n : Nat) (h : n ≤ l.length) (t : Nat) (ht : t < hs l n) : ∃ i, i < n ∧ lv l i = t := by
  induction n with
  | zero => simp [hs] at ht
  | succ n ih =>
    have h2 := lv_hs l hf n (by omega)
    by_cases h3 : t < hs l n
    · obtain ⟨i, hi, e⟩ := ih (by omega) h3
      exact ⟨i, by omega, e⟩
    · rw [hs] at ht
      exact ⟨n, by omega, by omega⟩
def mem (l : List Kn) (n t : Nat) : List Int := ((List.range n).filter fun i => lv l i == t).map fun i : Nat => (i : Int)
theorem mem_len (l : List Kn) (n t : Nat) : (mem l n t).length ≤ n := by
  unfold mem
  rw [List.length_map]
  exact Nat.le_trans (List.length_filter_le _ _) (by simp)
theorem mem_yes (l : List Kn) (n t : Nat) (h : lv l n = t) : mem l (n + 1) t = mem l n t ++ [(n : Int)] := by simp [mem, List.range_succ, h]
theorem mem_no (l : List Kn) (n t : Nat) (h : lv l n ≠ t) : mem l (n + 1) t = mem l n t := by simp [mem, List.range_succ, h]
theorem mem_nil (l : List Kn) (n t : Nat) (h : hs l n ≤ t) : mem l n t = [] := by
  unfold mem
  rw [List.map_eq_nil_iff, List.filter_eq_nil_iff]
  intro i hi
  have := hs_lt l n i (List.mem_range.1 hi)
  simp
  omega
theorem mem_ne (l : List Kn) (hf : Fam l) (n t : Nat) (hn : n ≤ l.length) (h : t < hs l n) : (mem l n t).length ≠ 0 := by
  obtain ⟨i, hi, e⟩ := hs_hit l hf n hn t h
  intro h0
  have h1 := List.eq_nil_of_length_eq_zero h0
  unfold mem at h1
  rw [List.map_eq_nil_iff, List.filter_eq_nil_iff] at h1
  exact h1 i (List.mem_range.2 hi) (by simp [e])
def rows (l : List Kn) (n h : Nat) : List (List Int) := (List.range h).map (mem l n)
theorem rows_len (l : List Kn) (n h : Nat) : (rows l n h).length = h := by simp [rows]
theorem rows_succ (l : List Kn) (n h : Nat) : rows l n (h + 1) = rows l n h ++ [mem l n h] := by simp [rows, List.range_succ]
theorem rows_get (l : List Kn) (n h t : Nat) (ht : t < h) : rd_L3 (rows l n h) (t : Int) = mem l n t := by
  simp [rd_L3, rows, List.getD_eq_getElem?_getD, ht]
theorem rows_set (l : List Kn) (n h : Nat) : (rows l n h).set (lv l n) (mem l n (lv l n) ++ [(n : Int)]) = rows l (n + 1) h := by
  apply List.ext_getElem?
  intro t
  rw [List.getElem?_set]
  by_cases e : lv l n = t
  · subst e
    by_cases ht : lv l n < h
    · rw [if_pos rfl, if_pos (by rw [rows_len]; exact ht)]
      simp [rows, ht, mem_yes]
    · rw [if_pos rfl, if_neg (by rw [rows_len]; exact ht)]
      simp [rows, ht]
  · rw [if_neg e]
    by_cases ht : t < h
    · simp [rows, ht, mem_no l n t e]
    · simp [rows, ht]
noncomputable def vGen (l : List Kn) : List (List Int) × Bool := if good l = true then (rows l l.length (hs l l.length), true) else ([], false)
theorem gn_spec_l1 (l : List Kn) (hf : Fam l) (acc : List (List Int)) (t : Nat) (r : List (List Int) × Bool)
    (hr : Ev (fun k => if ((mem l l.length t).length : Int) = 0 then some (acc, true) else if acc.length < 5864062014805 then spec_GenerationsOf.l0 k l (acc ++ [mem l l.length t]) (gens l l.length) (wrap64 ((t : Int) + 1)) else none) r) (n : Nat) : ∀ i : Nat, i ≤ l.length → l.length - i ≤ n → Ev (fun k => spec_GenerationsOf.l1 k l acc (gens l l.length) (t : Int) (mem l i t) (gens l l.length) (l.length : Int) (i : Int)) r := by
  have h14 := hf.1.2
  have stop : Ev (fun k => spec_GenerationsOf.l1 k l acc (gens l l.length) (t : Int) (mem l l.length t) (gens l l.length) (l.length : Int) (l.length : Int)) r := by
    refine Ev.step (f := fun k => _) (fun k => by rw [spec_GenerationsOf.l1]) (ifn (by omega) ?_)
    exact hr
  induction n with
  | zero =>
    intro i h1 h2
    obtain rfl : i = l.length := by omega
    exact stop
  | succ n ih =>
    intro i h1 h2
    by_cases hi : i < l.length
    · have e1 := (lv_gen l hf i hi).1
      have hm := mem_len l i t
      have hgl := gens_len l l.length
      have e := ih (i + 1) (by omega) (by omega)
      refine Ev.step (f := fun k => _) (fun k => by rw [spec_GenerationsOf.l1]) (ifp (by omega) (ifp (by omega) (ifp (by omega) ?_)))
      rw [e1, w64 _ (by omega)]
      by_cases ht : lv l i = t
      · rw [mem_yes l i t ht] at e
        exact ifp (by omega) (ifp (by omega) e)
      · rw [mem_no l i t ht] at e
        exact ifn (by omega) e
    · obtain rfl : i = l.length := by omega
      exact stop
theorem gn_spec_l0 (l : List Kn) (hf : Fam l) (n : Nat) : ∀ t : Nat, t ≤ hs l l.length → hs l l.length - t ≤ n → Ev (fun k => spec_GenerationsOf.l0 k l (rows l l.length t) (gens l l.length) (t : Int)) (rows l l.length (hs l l.length), true) := by
  have h14 := hf.1.2
  have hle := hs_le l hf l.length (Nat.le_refl _)
  have hgl := gens_len l l.length
  have hm0 : mem l 0 = fun _ => [] := by funext t; simp [mem]
  have stop : Ev (fun k => spec_GenerationsOf.l0 k l (rows l l.length (hs l l.length)) (gens l l.length) (hs l l.length : Int)) (rows l l.length (hs l l.length), true) := by
    by_cases hlt : hs l l.length < l.length
    · refine Ev.step (f := fun k => _) (fun k => by rw [spec_GenerationsOf.l0]) (ifp (by omega) ?_)
      have := gn_spec_l1 l hf (rows l l.length (hs l l.length)) (hs l l.length) (rows l l.length (hs l l.length), true) (ifp (by rw [mem_nil l _ _ (Nat.le_refl _)]; rfl) now) _ 0 (by omega) (Nat.le_refl _)
      rw [hm0] at this
      rw [hgl]
      exact this
    · exact Ev.step (f := fun k => _) (fun k => by rw [spec_GenerationsOf.l0]) (ifn (by omega) now)
  induction n with
  | zero =>
    intro t h1 h2
    obtain rfl : t = hs l l.length := by omega
    exact stop
  | succ n ih =>
    intro t h1 h2
    by_cases ht : t < hs l l.length
    · have e := ih (t + 1) (by omega) (by omega)
      have hne := mem_ne l hf l.length t (Nat.le_refl _) ht
      have hrl := rows_len l l.length t
      rw [rows_succ] at e
      refine Ev.step (f := fun k => _) (fun k => by rw [spec_GenerationsOf.l0]) (ifp (by omega) ?_)
      have := gn_spec_l1 l hf (rows l l.length t) t (rows l l.length (hs l l.length), true) (ifn (by omega) (ifp (by omega) (by rw [w64 _ (by omega)]; exact e))) _ 0 (by omega) (Nat.le_refl _)
      rw [hm0] at this
      rw [hgl]
      exact this
    · obtain rfl : t = hs l l.length := by omega
      exact stop
theorem spec_Gen (l : List Kn) (hl : l.length ≤ 1073741824) : Ev (fun k => spec_GenerationsOf.f k l) (vGen l) := by
  unfold spec_GenerationsOf.f vGen
  refine Ev.bind (faGood l hl) ?_
  by_cases h : good l = true
  · have hf := (good_iff l).1 h
    rw [if_pos h]
    exact ifp h (Ev.bind (faGenerations l hf) (gn_spec_l0 l hf _ 0 (Nat.zero_le _) (Nat.le_refl _)))
  · rw [if_neg h]
    exact ifn h now
theorem gn_impl_l0 (l : List Kn) (hf : Fam l) (n : Nat) : ∀ i : Nat, i ≤ l.length → l.length - i ≤ n → Ev (fun k => impl_GenerationsOf.l0 k l (rows l i (hs l i)) (l.length : Int) (i : Int)) (rows l l.length (hs l l.length), true) := by
  have h14 := hf.1.2
  have stop : Ev (fun k => impl_GenerationsOf.l0 k l (rows l l.length (hs l l.length)) (l.length : Int) (l.length : Int)) (rows l l.length (hs l l.length), true) := Ev.step (f := fun k => _) (fun k => by rw [impl_GenerationsOf.l0]) (ifn (by omega) now)
  induction n with
  | zero =>
    intro i h1 h2
    obtain rfl : i = l.length := by omega
    exact stop
  | succ n ih =>
    intro i h1 h2
    by_cases hi : i < l.length
    · have e := ih (i + 1) (by omega) (by omega)
      have hle := hs_le l hf i (by omega)
      have hlv := lv_hs l hf i hi
      have e1 := (lv_gen l hf i hi).1
      -- the row is there
      have put : ∀ h, lv l i < h → h ≤ 15 → h = hs l (i + 1) → Ev (fun k => impl_GenerationsOf.l1 k l (rows l i h) (i : Int) (lv l i : Int) (l.length : Int) (i : Int)) (rows l l.length (hs l l.length), true) := by
        intro h h3 h4 h5
        have hrl := rows_len l i h
        have hml := mem_len l i (lv l i)
        refine Ev.step (f := fun k => _) (fun k => by rw [impl_GenerationsOf.l1]) (ifn (by omega) (ifp (by omega) (ifp (by omega) ?_)))
        rw [rows_get l i h _ h3, Int.toNat_natCast, rows_set, w64 _ (by omega), h5]
        exact ifp (by omega) e
      refine Ev.step (f := fun k => _) (fun k => by rw [impl_GenerationsOf.l0]) (ifp (by omega) (Ev.bind (generation l hf (i : Int) (by omega)) ?_))
      rw [e1]
      by_cases hlt : lv l i < hs l i
      · exact put _ hlt (by omega) (by rw [hs]; omega)
      · have hrl := rows_len l i (hs l i)
        refine Ev.step (f := fun k => _) (fun k => by rw [impl_GenerationsOf.l1]) (ifp (by omega) (ifp (by omega) ?_))
        rw [← mem_nil l i (hs l i) (Nat.le_refl _), ← rows_succ]
        exact put _ (by omega) (by omega) (by rw [hs]; omega)
    · obtain rfl : i = l.length := by omega
      exact stop
theorem impl_Gen (l : List Kn) (hl : l.length ≤ 1073741824) : Ev (fun k => impl_GenerationsOf.f k l) (vGen l) := by
  unfold impl_GenerationsOf.f vGen
  refine Ev.bind (isFamily l hl) ?_
  by_cases h : good l = true
  · have hf := (good_iff l).1 h
    rw [if_pos h]
    exact ifp h (gn_impl_l0 l hf _ 0 (Nat.zero_le _) (Nat.le_refl _))
  · rw [if_neg h]
    exact ifn h now
theorem sum_le (xs : List Nat) (B : Nat) (h : ∀ x ∈ xs, x ≤ B) : xs.sum ≤ xs.length * B := by
  induction xs with
  | nil => simp
  | cons x xs ih =>
    have h1 := h x (List.mem_cons_self ..)
    have h2 := ih (fun y hy => h y (List.mem_cons_of_mem _ hy))
    rw [List.sum_cons, List.length_cons, Nat.add_mul]
    omega
theorem vGen_bd (l : List Kn) : (vGen l).1.length ≤ 14 ∧ ∀ x ∈ (vGen l).1, x.length ≤ 14 := by
  unfold vGen
  split
  · rename_i h
    have hf := (good_iff l).1 h
    have h14 := hf.1.2
    have := hs_le l hf l.length (Nat.le_refl _)
    refine ⟨by show (rows l l.length (hs l l.length)).length ≤ 14; rw [rows_len]; omega, fun x hx => ?_⟩
    obtain ⟨t, _, rfl⟩ := List.mem_map.1 (show x ∈ (List.range (hs l l.length)).map (mem l l.length) from hx)
    have := mem_len l l.length t
    omega
  · exact ⟨by simp, fun x hx => by cases hx⟩
end Go.Proofs.Ytllihaahppelhaa.Pr
namespace Go.Proofs.Ytllihaahppelhaa.Pr
open Go.RowKit Go.Proofs.Ytllihaahppelhaa.P Go.Proofs.YtllihaahppelhaaW.PrintWords Go.Proofs.Ytllihaahppelhaa.E
def marks (n : Nat) (m : Int) : List Int := (List.range n).map fun i : Nat => m + (i : Int)
theorem marks_length (n : Nat) (m : Int) : (marks n m).length = n := by simp [marks]
theorem marks_get (n : Nat) (m : Int) (i : Nat) (h : i < n) : (marks n m)[i]'(by rw [marks_length]; exact h) = m + i := by simp [marks]
theorem rd_get (l : List Int) (i : Nat) (h : i < l.length) : rd l (i : Int) = l[i] := by simp [rd, List.getD_eq_getElem?_getD, List.getElem?_eq_getElem h]
theorem eqIntS_l (l : List Int) (hl : l.length ≤ 1099511627776) (n : Nat) : ∀ i : Nat, i ≤ l.length → l.length - i ≤ n → Ev (fun k => laws_eqIntS.l0 k l l (i : Int)) true := by
  induction n with
  | zero =>
    intro i h1 h2
    exact Ev.step (f := fun k => _) (fun k => by rw [laws_eqIntS.l0]) (ifn (by omega) now)
  | succ n ih =>
    intro i h1 h2
    by_cases hi : i < l.length
    · refine Ev.step (f := fun k => _) (fun k => by rw [laws_eqIntS.l0]) (ifp (by omega) (ifp (by omega) (ifp (by omega) (ifp rfl ?_))))
      rw [w64 _ (by omega)]
      exact ih (i + 1) (by omega) (by omega)
    · exact Ev.step (f := fun k => _) (fun k => by rw [laws_eqIntS.l0]) (ifn (by omega) now)
theorem eqIntS (l : List Int) (hl : l.length ≤ 1099511627776) : Ev (fun k => laws_eqIntS.f k l l) true := by
  unfold laws_eqIntS.f
  exact ifp rfl (eqIntS_l l hl _ 0 (by omega) (Nat.le_refl _))
theorem set_mid (l : List Int) (m : Int) (i : Nat) (h : i < l.length) : (marks i m ++ l.drop i).set i (m + i) = marks (i + 1) m ++ l.drop (i + 1) := by
  rw [List.set_append_right _ _ (by rw [marks_length]; exact Nat.le_refl _), marks_length, Nat.sub_self, List.drop_eq_getElem_cons h, List.set_cons_zero]
  simp [marks, List.range_succ]
theorem markIntS_l (l : List Int) (hl : l.length ≤ 1099511627776) (m : Int) (hm : m.natAbs ≤ 4611686018427387904) (n : Nat) : ∀ i : Nat, i ≤ l.length → l.length - i ≤ n →
    Ev (fun k => laws_markIntS.l0 k (marks i m ++ l.drop i) (m + i) (i : Int)) (m + l.length, marks l.length m) := by
  have hlen : ∀ i, i ≤ l.length → (marks i m ++ l.drop i).length = l.length := fun i h => by rw [List.length_append, marks_length, List.length_drop]; omega
  have stop : Ev (fun k => laws_markIntS.l0 k (marks l.length m ++ l.drop l.length) (m + l.length) (l.length : Int)) (m + l.length, marks l.length m) := by
    have h := hlen l.length (Nat.le_refl _)
    refine Ev.step (f := fun k => _) (fun k => by rw [laws_markIntS.l0]) (ifn (by omega) (evEq now ?_))
    rw [List.drop_length, List.append_nil]
  induction n with
  | zero =>
    intro i h1 h2
    obtain rfl : i = l.length := by omega
    exact stop
  | succ n ih =>
    intro i h1 h2
    by_cases hi : i < l.length
    · have h := hlen i h1
      refine Ev.step (f := fun k => _) (fun k => by rw [laws_markIntS.l0]) (ifp (by omega) (ifp (by omega) ?_))
      rw [w64 (m + i + 1) (by omega), w64 (i + 1) (by omega), Int.toNat_natCast, set_mid l m i hi]
      have := ih (i + 1) (by omega) (by omega)
      rw [show ((i + 1 : Nat) : Int) = (i : Int) + 1 from rfl, ← Int.add_assoc] at this
      exact this
    · obtain rfl : i = l.length := by omega
      exact stop
theorem markIntS (l : List Int) (hl : l.length ≤ 1099511627776) (m : Int) (hm : m.natAbs ≤ 4611686018427387904) : Ev (fun k => laws_markIntS.f k l m) (m + l.length, marks l.length m) := by
  have := markIntS_l l hl m hm _ 0 (by omega) (Nat.le_refl _)
  simpa [marks, laws_markIntS.f] using this
theorem heldIntS_l (N : Nat) (hl : N ≤ 1099511627776) (m : Int) (hm : m.natAbs ≤ 4611686018427387904) (n : Nat) : ∀ i : Nat, i ≤ N → N - i ≤ n → Ev (fun k => laws_heldIntS.l0 k (marks N m) (m + i) (i : Int)) (m + N) := by
  have stop : Ev (fun k => laws_heldIntS.l0 k (marks N m) (m + N) (N : Int)) (m + N) :=
    Ev.step (f := fun k => _) (fun k => by rw [laws_heldIntS.l0]) (ifn (by rw [marks_length]; omega) now)
  induction n with
  | zero =>
    intro i h1 h2
    obtain rfl : i = N := by omega
    exact stop
  | succ n ih =>
    intro i h1 h2
    by_cases hi : i < N
    · refine Ev.step (f := fun k => _) (fun k => by rw [laws_heldIntS.l0]) (ifp (by rw [marks_length]; omega) (ifp (by omega) (ifp ?_ ?_)))
      · rw [rd_get _ _ (by rw [marks_length]; exact hi), marks_get N m i hi]
      · rw [w64 (m + i + 1) (by omega), w64 (i + 1) (by omega)]
        have := ih (i + 1) (by omega) (by omega)
        rw [show ((i + 1 : Nat) : Int) = (i : Int) + 1 from rfl, ← Int.add_assoc] at this
        exact this
    · obtain rfl : i = N := by omega
      exact stop
theorem heldIntS (N : Nat) (hl : N ≤ 1099511627776) (m : Int) (hm : m.natAbs ≤ 4611686018427387904) : Ev (fun k => laws_heldIntS.f k (marks N m) m) (m + N) := by
  have := heldIntS_l N hl m hm _ 0 (by omega) (Nat.le_refl _)
  simpa [laws_heldIntS.f] using this
end Go.Proofs.Ytllihaahppelhaa.Pr
namespace Go.Proofs.Ytllihaahppelhaa.Pr
open Go.RowKit Go.Proofs.Ytllihaahppelhaa.P Go.Proofs.YtllihaahppelhaaW.PrintWords Go.Proofs.Ytllihaahppelhaa.E
def tot (xs : List (List Int)) : Nat := (xs.map List.length).sum
def mkAll : Int → List (List Int) → List (List Int)
  | _, [] => []
  | m, x :: xs => marks x.length m :: mkAll (m + x.length) xs
theorem mkAll_len (xs : List (List Int)) : ∀ m, (mkAll m xs).length = xs.length := by
  induction xs with
  | nil => intro m; rfl
  | cons x xs ih => intro m; simp [mkAll, ih]
theorem tot_cons (x : List Int) (xs : List (List Int)) : tot (x :: xs) = x.length + tot xs := by simp [tot]
theorem rdL_mid (pre : List (List Int)) (x : List Int) (xs : List (List Int)) : rd_L3 (pre ++ x :: xs) (pre.length : Int) = x := by
  simp [rd_L3, List.getD_eq_getElem?_getD]
theorem markIntSS_l (rest : List (List Int)) : ∀ (pre : List (List Int)) (a : Int), 0 ≤ a → a + tot rest ≤ 1000000000 → Ev (fun k => laws_markIntSS.lp k (pre ++ rest) a pre.length) (a + tot rest, pre ++ mkAll a rest) := by
  induction rest with
  | nil =>
    intro pre a _ _
    refine Ev.step (f := fun k => _) (fun k => by rw [laws_markIntSS.lp]) (ifn (by simp) (evEq now ?_))
    simp [tot, mkAll]
  | cons x xs ih =>
    intro pre a h0 h1
    rw [tot_cons] at h1
    have e := ih (pre ++ [marks x.length a]) (a + x.length) (by omega) (by omega)
    refine Ev.step (f := fun k => _) (fun k => by rw [laws_markIntSS.lp]) (ifp (by simp) ?_)
    rw [rdL_mid]
    refine Ev.bind (markIntS x (by omega) a (by omega)) (evEq (r := (a + x.length + tot xs, (pre ++ [marks x.length a]) ++ mkAll (a + x.length) xs)) ?_ ?_)
    · have e2 : (pre ++ x :: xs).set pre.length (marks x.length a) = (pre ++ [marks x.length a]) ++ xs := by simp
      rw [e2]
      simpa using e
    · rw [tot_cons, mkAll]
      simp
      omega
theorem markIntSS (xs : List (List Int)) (h : tot xs ≤ 100000000) : Ev (fun k => laws_markIntSS.f k xs 1) (1 + tot xs, mkAll 1 xs) := by
  have := markIntSS_l xs [] 1 (by omega) (by omega)
  exact this
theorem heldIntSS_l (rest : List (List Int)) : ∀ (pre : List (List Int)) (a : Int), 0 ≤ a → a + tot rest ≤ 1000000000 → pre.length + rest.length ≤ 1000000 → Ev (fun k => laws_heldIntSS.l0 k (pre ++ mkAll a rest) a (pre.length : Int)) (a + tot rest) := by
  induction rest with
  | nil =>
    intro pre a _ _ _
    refine Ev.step (f := fun k => _) (fun k => by rw [laws_heldIntSS.l0]) (ifn (by simp [mkAll]) (evEq now ?_))
    simp [tot]
  | cons x xs ih =>
    intro pre a h0 h1 h2
    rw [tot_cons] at h1
    simp only [List.length_cons] at h2
    have e := ih (pre ++ [marks x.length a]) (a + x.length) (by omega) (by omega) (by simp; omega)
    refine Ev.step (f := fun k => _) (fun k => by rw [laws_heldIntSS.l0]) (ifp (by simp [mkAll]; omega) (ifp (by omega) ?_))
    rw [mkAll, rdL_mid, w64 _ (by omega)]
    refine Ev.bind (heldIntS x.length (by omega) a (by omega)) (ifn (by omega) ?_)
    rw [tot_cons]
    simp only [List.append_assoc, List.singleton_append, List.length_append, List.length_singleton] at e
    refine evEq (by simpa using e) (by simp; omega)
theorem heldIntSS (xs : List (List Int)) (h : tot xs ≤ 100000000) (h2 : xs.length ≤ 1000000) : Ev (fun k => laws_heldIntSS.f k (mkAll 1 xs) 1) (1 + tot xs) := heldIntSS_l xs [] 1 (by omega) (by omega) (by simpa using h2)
theorem eqIntSS_l (rest : List (List Int)) : ∀ (pre : List (List Int)), (∀ x ∈ rest, x.length ≤ 1000000) → pre.length + rest.length ≤ 1000000 → Ev (fun k => laws_eqIntSS.l0 k (pre ++ rest) (pre ++ rest) (pre.length : Int)) true := by
  induction rest with
  | nil =>
    intro pre _ _
    exact Ev.step (f := fun k => _) (fun k => by rw [laws_eqIntSS.l0]) (ifn (by simp) now)
  | cons x xs ih =>
    intro pre h1 h2
    simp only [List.length_cons] at h2
    have e := ih (pre ++ [x]) (fun y hy => h1 y (List.mem_cons_of_mem _ hy)) (by simp; omega)
    refine Ev.step (f := fun k => _) (fun k => by rw [laws_eqIntSS.l0]) (ifp (by simp; omega) (ifp (by omega) (ifp (by simp; omega) ?_)))
    rw [rdL_mid, w64 _ (by omega)]
    refine Ev.bind (eqIntS x (by have := h1 x (List.mem_cons_self ..); omega)) (ifp rfl ?_)
    simpa using e
theorem eqIntSS (xs : List (List Int)) (h1 : ∀ x ∈ xs, x.length ≤ 1000000) (h2 : xs.length ≤ 1000000) : Ev (fun k => laws_eqIntSS.f k xs xs) true := by
  unfold laws_eqIntSS.f
  exact ifp rfl (eqIntSS_l xs [] h1 (by simpa using h2))
end Go.Proofs.Ytllihaahppelhaa.Pr
namespace Go.Proofs.Ytllihaahppelhaa.Pr
open Go.RowKit Go.Proofs.Ytllihaahppelhaa.P Go.Proofs.YtllihaahppelhaaW.PrintWords Go.Proofs.Ytllihaahppelhaa.E
def marksK (n : Nat) (m : Int) : List Kn := (List.range n).map fun i : Nat => ⟨m + 3 * (i : Int), m + 3 * (i : Int) + 1, m + 3 * (i : Int) + 1 + 1⟩
theorem marksK_length (n : Nat) (m : Int) : (marksK n m).length = n := by simp [marksK]
theorem marksK_get (n : Nat) (m : Int) (i : Nat) (h : i < n) : (marksK n m)[i]'(by rw [marksK_length]; exact h) = ⟨m + 3 * (i : Int), m + 3 * (i : Int) + 1, m + 3 * (i : Int) + 1 + 1⟩ := by simp [marksK]
theorem setK_mid (l : List Kn) (m : Int) (i : Nat) (h : i < l.length) (x : Kn) : (marksK i m ++ l.drop i).set i x = marksK i m ++ x :: l.drop (i + 1) := by
  rw [List.set_append_right _ _ (by rw [marksK_length]; exact Nat.le_refl _), marksK_length, Nat.sub_self, List.drop_eq_getElem_cons h, List.set_cons_zero]
theorem setK_mid2 (l : List Kn) (m : Int) (i : Nat) (x y : Kn) : (marksK i m ++ y :: l.drop (i + 1)).set i x = marksK i m ++ x :: l.drop (i + 1) := by
  rw [List.set_append_right _ _ (by rw [marksK_length]; exact Nat.le_refl _), marksK_length, Nat.sub_self, List.set_cons_zero]
theorem rdK_mid (l : List Kn) (m : Int) (i : Nat) (y : Kn) : rd_T49 (marksK i m ++ y :: l.drop (i + 1)) (i : Int) = y := by
  rw [rdK_get _ i (by simp [marksK_length]), List.getElem_append_right (by rw [marksK_length]; exact Nat.le_refl _)]
  simp only [marksK_length, Nat.sub_self, List.getElem_cons_zero]
theorem marksK_succ (l : List Kn) (m : Int) (i : Nat) : marksK i m ++ (⟨m + 3 * (i : Int), m + 3 * (i : Int) + 1, m + 3 * (i : Int) + 1 + 1⟩ : Kn) :: l.drop (i + 1) = marksK (i + 1) m ++ l.drop (i + 1) := by
  simp [marksK, List.range_succ]
theorem markKinS_l (l : List Kn) (hl : l.length ≤ 1099511627776) (m : Int) (hm : m.natAbs ≤ 4611686018427387904) (n : Nat) : ∀ i : Nat, i ≤ l.length → l.length - i ≤ n →
    Ev (fun k => laws_markKinS.l0 k (marksK i m ++ l.drop i) (m + 3 * i) (i : Int)) (m + 3 * l.length, marksK l.length m) := by
  have hlen : ∀ i, i ≤ l.length → (marksK i m ++ l.drop i).length = l.length := fun i h => by rw [List.length_append, marksK_length, List.length_drop]; omega
  have stop : Ev (fun k => laws_markKinS.l0 k (marksK l.length m ++ l.drop l.length) (m + 3 * l.length) (l.length : Int)) (m + 3 * l.length, marksK l.length m) := by
    have h := hlen l.length (Nat.le_refl _)
    refine Ev.step (f := fun k => _) (fun k => by rw [laws_markKinS.l0]) (ifn (by omega) (evEq now ?_))
    rw [List.drop_length, List.append_nil]
  induction n with
  | zero =>
    intro i h1 h2
    obtain rfl : i = l.length := by omega
    exact stop
  | succ n ih =>
    intro i h1 h2
    by_cases hi : i < l.length
    · have h := hlen i h1
      refine Ev.step (f := fun k => _) (fun k => by rw [laws_markKinS.l0]) (ifp (by omega) (ifp (by omega) ?_))
      simp only [Option.bind_some]
      rw [w64 (m + 3 * i + 1) (by omega), w64 (i + 1) (by omega), w64 (m + 3 * i + 1 + 1) (by omega), w64 _ (by omega), Int.toNat_natCast, setK_mid l m i hi, rdK_mid, setK_mid2, rdK_mid, setK_mid2]
      rw [marksK_succ]
      have := ih (i + 1) (by omega) (by omega)
      rw [show m + 3 * ((i + 1 : Nat) : Int) = m + 3 * (i : Int) + 1 + 1 + 1 by omega] at this
      exact this
    · obtain rfl : i = l.length := by omega
      exact stop
theorem markKinS (l : List Kn) (hl : l.length ≤ 1099511627776) (m : Int) (hm : m.natAbs ≤ 4611686018427387904) : Ev (fun k => laws_markKinS.f k l m) (m + 3 * l.length, marksK l.length m) := by
  have := markKinS_l l hl m hm _ 0 (by omega) (Nat.le_refl _)
  simpa [marksK, laws_markKinS.f] using this
end Go.Proofs.Ytllihaahppelhaa.Pr
namespace Go.Proofs.Ytllihaahppelhaa.Pure
open Go.RowKit Go.Proofs.Ytllihaahppelhaa.P Go.Proofs.Ytllihaahppelhaa.Pr Go.Proofs.Ytllihaahppelhaa.E Go.Proofs.YtllihaahppelhaaW.PrintWords
theorem FnExactGenerationsOf : laws_FnExactGenerationsOf.Pure := by
  intro l hl hb _
  refine Ev.rounds ?_
  unfold laws_FnExactGenerationsOf.f
  refine call (szKinS l (by omega)) ?_
  by_cases hs : l.length ≤ 1048576
  · have hl' : l.length ≤ 1099511627776 := by omega
    have hcl : (conv l).length ≤ 1048576 := by rw [conv_length]; exact hs
    have hc' : (conv l).length ≤ 1099511627776 := by omega
    rw [if_pos hs]
    refine ifn (by omega) ?_
    have e1 := spec_Gen (conv l) (by omega)
    obtain ⟨K1, e2⟩ := impl_Gen (conv l) (by omega)
    obtain ⟨hv1, hv2⟩ := vGen_bd (conv l)
    generalize vGen (conv l) = v at e1 e2 hv1 hv2
    have ht : tot v.1 ≤ 100000000 := by
      have := sum_le (v.1.map List.length) 14 (fun x hx => by obtain ⟨y, hy, rfl⟩ := List.mem_map.1 hx; exact hv2 y hy)
      unfold tot
      rw [List.length_map] at this
      omega
    obtain ⟨K2, e3⟩ := eqIntSS v.1 (fun x hx => by have := hv2 x hx; omega) (by omega)
    obtain ⟨K3, e4⟩ := eqKinS (conv l) hc'
    obtain ⟨K4, e5⟩ := markKinS (conv l) hc' 1 (by decide)
    obtain ⟨K5, e6⟩ := markIntSS v.1 ht
    obtain ⟨K6, e7⟩ := heldIntSS v.1 ht (by omega)
    refine Ev.bind (toKinS l hl') (Ev.bind e1 ⟨K1 + K2 + K3 + K4 + K5 + K6, fun k hk => ?_⟩)
    refine if_pos ⟨e2 k (by omega), e3 k (by omega), e4 k (by omega), ⟨_, e5 k (by omega), by show (0 : Int) ≤ 1 + 3 * _; omega⟩, ⟨_, e6 k (by omega), by show (0 : Int) ≤ 1 + _; omega, e7 k (by omega), mkAll_len _ _⟩⟩
  · rw [if_neg hs]
    exact ifp (by omega) now
end Go.Proofs.Ytllihaahppelhaa.Pure
