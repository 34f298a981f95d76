/- The program's StepsApart tells what the reference's tells, for every family and any two, and leaves what it is handed. No condition. -/
import Derived.Test.YtllihaahppelhaaPx16
import Derived.Test.YtllihaahppelhaaPx2
import Derived.Test.YtllihaahppelhaaPxHimplqStepsApart
import Derived.Test.YtllihaahppelhaaPxHimplqsteps
import Derived.Test.YtllihaahppelhaaPxHimplqareBetween
import Derived.Test.YtllihaahppelhaaPx11
import Derived.Test.YtllihaahppelhaaPx1
import Derived.Test.YtllihaahppelhaaPx7
import Derived.Test.YtllihaahppelhaaPxHimplqKinqparents
import Derived.Test.YtllihaahppelhaaPx0
import Derived.Test.YtllihaahppelhaaEv
import Derived.Lib.SlicesCompact
import Derived.Test.YtllihaahppelhaaPx14
namespace Go.Proofs.Ytllihaahppelhaa.Pr
open Go.RowKit Go.Proofs.Ytllihaahppelhaa.P Go.Proofs.YtllihaahppelhaaW.PrintWords Go.Proofs.Ytllihaahppelhaa.E
abbrev Kn := S49
abbrev LK := S51
abbrev rdK (l : List Kn) (i : Int) : Kn := rd_T49 l i
theorem rdK_get (l : List Kn) (i : Nat) (h : i < l.length) : rd_T49 l (i : Int) = l[i] := by simp [rd_T49, List.getD_eq_getElem?_getD, List.getElem?_eq_getElem h]
theorem rdL_get (l : List LK) (i : Nat) (h : i < l.length) : rd_T51 l (i : Int) = l[i] := by simp [rd_T51, List.getD_eq_getElem?_getD, List.getElem?_eq_getElem h]
def conv1 (x : LK) : Kn := ⟨x.f0, x.f1, x.f2⟩
def conv (l : List LK) : List Kn := l.map conv1
theorem conv_length (l : List LK) : (conv l).length = l.length := by simp [conv]
theorem szKinS (l : List LK) (h : l.length ≤ 140737488351232) : laws_szKinS.f l 1048576 = some (if l.length ≤ 1048576 then 1048576 - (l.length : Int) else -1) := by
  unfold laws_szKinS.f
  rw [w64 _ (by omega)]
  by_cases h1 : l.length ≤ 1048576
  · rw [if_neg (by omega), if_pos h1]
  · rw [if_pos (by omega), if_neg h1]
theorem toKinS_l (l : List LK) (hl : l.length ≤ 1099511627776) (n : Nat) : ∀ i : Nat, i ≤ l.length → l.length - i ≤ n →
    Ev (fun k => laws_toKinS.l0 k l (conv (l.take i) ++ List.replicate (l.length - i) z49) (i : Int)) (conv l) := by
  have stop : Ev (fun k => laws_toKinS.l0 k l (conv (l.take l.length) ++ List.replicate (l.length - l.length) z49) (l.length : Int)) (conv l) := by
    refine Ev.step (f := fun k => _) (fun k => by rw [laws_toKinS.l0]) (ifn (by omega) (evEq now ?_))
    simp
  induction n with
  | zero =>
    intro i h1 h2
    obtain rfl : i = l.length := by omega
    exact stop
  | succ n ih =>
    intro i h1 h2
    by_cases hi : i < l.length
    · have hlen : (conv (l.take i) ++ List.replicate (l.length - i) z49).length = l.length := by simp [conv]; omega
      have hset : (conv (l.take i) ++ List.replicate (l.length - i) z49).set i (conv1 l[i]) = conv (l.take (i + 1)) ++ List.replicate (l.length - (i + 1)) z49 := by
        have hc : (conv (l.take i)).length = i := by simp [conv]; omega
        rw [List.set_append_right _ _ (by omega), hc, Nat.sub_self, show l.length - i = (l.length - (i + 1)) + 1 by omega, List.replicate_succ, List.set_cons_zero, List.take_succ_eq_append_getElem hi]
        simp only [conv, List.map_append, List.map_cons, List.map_nil, List.append_assoc, List.cons_append, List.nil_append]
      refine Ev.step (f := fun k => _) (fun k => by rw [laws_toKinS.l0]) (ifp (by omega) (ifp (by omega) ?_))
      refine call (b := (l[i].f0, l[i].f1, l[i].f2)) (by rw [rdL_get l i hi]; rfl) ?_
      refine ifp (by omega) ?_
      rw [w64 _ (by omega), Int.toNat_natCast]
      have := ih (i + 1) (by omega) (by omega)
      rw [← hset] at this
      exact this
    · obtain rfl : i = l.length := by omega
      exact stop
theorem toKinS (l : List LK) (hl : l.length ≤ 1099511627776) : Ev (fun k => laws_toKinS.f k l) (conv l) := by
  unfold laws_toKinS.f
  refine ifp (by omega) (ifp (by omega) ?_)
  have := toKinS_l l hl _ 0 (by omega) (Nat.le_refl _)
  simpa [conv] using this
theorem eqKin (a b c : Int) : laws_eqKin.f a b c a b c = some true := by simp [laws_eqKin.f]
theorem eqKinS_l (l : List Kn) (hl : l.length ≤ 1099511627776) (n : Nat) : ∀ i : Nat, i ≤ l.length → l.length - i ≤ n → Ev (fun k => laws_eqKinS.l0 k l l (i : Int)) true := by
  induction n with
  | zero =>
    intro i h1 h2
    exact Ev.step (f := fun k => _) (fun k => by rw [laws_eqKinS.l0]) (ifn (by omega) now)
  | succ n ih =>
    intro i h1 h2
    by_cases hi : i < l.length
    · refine Ev.step (f := fun k => _) (fun k => by rw [laws_eqKinS.l0]) (ifp (by omega) (ifp (by omega) (ifp (by omega) (call (eqKin _ _ _) (ifp rfl ?_)))))
      rw [w64 _ (by omega)]
      exact ih (i + 1) (by omega) (by omega)
    · exact Ev.step (f := fun k => _) (fun k => by rw [laws_eqKinS.l0]) (ifn (by omega) now)
theorem eqKinS (l : List Kn) (hl : l.length ≤ 1099511627776) : Ev (fun k => laws_eqKinS.f k l l) true := by
  unfold laws_eqKinS.f
  exact ifp rfl (eqKinS_l l hl _ 0 (by omega) (Nat.le_refl _))
end Go.Proofs.Ytllihaahppelhaa.Pr
namespace Go.Proofs.Ytllihaahppelhaa.Pr
open Go.RowKit Go.Proofs.Ytllihaahppelhaa.P Go.Proofs.YtllihaahppelhaaW.PrintWords Go.Proofs.Ytllihaahppelhaa.E
theorem l1In (a lo hi : Int) : spec_l1In.f a lo hi = some (decide (lo ≤ a ∧ a ≤ hi)) := by
  unfold spec_l1In.f
  by_cases h : a ≥ lo
  · rw [if_pos h]; congr 1; simp; omega
  · rw [if_neg h]; congr 1; simp; omega
theorem between (a lo hi : Int) : impl_between.f a lo hi = some (decide (lo ≤ a ∧ a ≤ hi)) := l1In a lo hi
theorem rdI (l : List Int) (i : Nat) (h : i < l.length) : rd l (i : Int) = l[i] := by simp [rd, List.getD_eq_getElem?_getD, List.getElem?_eq_getElem h]
/-- The known parents. -/
def ps (k : Kn) : List Int := [k.f1, k.f2].filter fun x => !decide (x < 0)
theorem parents_f (k : Kn) : impl_Kin_parents.f k.f0 k.f1 k.f2 = some (ps k) := rfl
theorem ps_len (k : Kn) : (ps k).length ≤ 2 := by unfold ps; exact Nat.le_trans (List.length_filter_le _ _) (by simp)
theorem mem_ps (k : Kn) (p : Int) : p ∈ ps k ↔ (p = k.f1 ∨ p = k.f2) ∧ 0 ≤ p := by
  unfold ps
  simp [List.mem_filter]
/-- May k be told behind the first i of l? -/
def Fits (l : List Kn) (i : Nat) (k : Kn) : Prop := (0 ≤ k.f0 ∧ k.f0 ≤ 3000) ∧ ((k.f1 = -1 ∧ k.f2 = -1) ∨ ((0 ≤ k.f1 ∧ k.f1 < i ∧ 14 ≤ k.f0 - (rdK l k.f1).f0) ∧ (k.f2 = -1 ∨ (k.f1 < k.f2 ∧ k.f2 < i ∧ 14 ≤ k.f0 - (rdK l k.f2).f0))))
instance (l : List Kn) (i : Nat) (k : Kn) : Decidable (Fits l i k) := by unfold Fits; exact inferInstance
def Fam (l : List Kn) : Prop := (1 ≤ l.length ∧ l.length ≤ 14) ∧ ∀ i, (h : i < l.length) → Fits l i l[i]
noncomputable def good (l : List Kn) : Bool := dec (Fam l)
theorem good_iff (l : List Kn) : good l = true ↔ Fam l := dec_iff _
theorem good_of (l : List Kn) (h : Fam l) : good l = true := (good_iff l).2 h
theorem good_not (l : List Kn) (h : ¬ Fam l) : good l = false := by
  cases e : good l with
  | true => exact absurd ((good_iff l).1 e) h
  | false => rfl
theorem rdK_int (l : List Kn) (p : Int) (h0 : 0 ≤ p) (h1 : p < (l.length : Int)) : ∃ h : p.toNat < l.length, rd_T49 l p = l[p.toNat] := by
  have h : p.toNat < l.length := by omega
  refine ⟨h, ?_⟩
  have e := rdK_get l p.toNat h
  rw [Int.toNat_of_nonneg h0] at e
  exact e
theorem rdK_take (l : List Kn) (i : Nat) (hi : i ≤ l.length) (p : Int) (h0 : 0 ≤ p) (h1 : p < (i : Int)) : rdK (l.take i) p = rdK l p := by
  obtain ⟨h2, e2⟩ := rdK_int (l.take i) p h0 (by rw [List.length_take]; omega)
  obtain ⟨h3, e3⟩ := rdK_int l p h0 (by omega)
  show rd_T49 _ _ = rd_T49 _ _
  rw [e2, e3, List.getElem_take]
theorem Fits_take (l : List Kn) (i : Nat) (hi : i ≤ l.length) (k : Kn) : Fits (l.take i) i k ↔ Fits l i k := by
  unfold Fits
  refine and_congr_right fun _ => or_congr_right ?_
  by_cases h1 : 0 ≤ k.f1 ∧ k.f1 < (i : Int)
  · rw [rdK_take l i hi _ h1.1 h1.2]
    refine and_congr_right fun _ => or_congr_right ?_
    by_cases h2 : 0 ≤ k.f2 ∧ k.f2 < (i : Int)
    · rw [rdK_take l i hi _ h2.1 h2.2]
    · constructor <;> intro h <;> exact absurd (show 0 ≤ k.f2 ∧ k.f2 < (i : Int) by omega) h2
  · constructor <;> intro h <;> exact absurd ⟨h.1.1, h.1.2.1⟩ h1
def Years (l : List Kn) : Prop := ∀ i, (h : i < l.length) → 0 ≤ l[i].f0 ∧ l[i].f0 ≤ 3000
theorem Years_rd (l : List Kn) (hy : Years l) (p : Int) (h0 : 0 ≤ p) (h1 : p < (l.length : Int)) : 0 ≤ (rdK l p).f0 ∧ (rdK l p).f0 ≤ 3000 := by
  obtain ⟨h, e⟩ := rdK_int l p h0 h1
  show 0 ≤ (rd_T49 l p).f0 ∧ (rd_T49 l p).f0 ≤ 3000
  rw [e]; exact hy _ h
theorem faOlder (b : List Kn) (p born : Int) (hy : Years b) (hb : 0 ≤ born ∧ born ≤ 3000) (hl : b.length ≤ 1073741824) : spec_faOlder.f b p born = some (decide (0 ≤ p ∧ p < (b.length : Int) ∧ 14 ≤ born - (rdK b p).f0)) := by
  unfold spec_faOlder.f
  rw [w64 _ (by omega), l1In]
  simp only [Option.bind_some]
  by_cases h : 0 ≤ p ∧ p ≤ (b.length : Int) - 1
  · have hr : 0 ≤ (rd_T49 b p).f0 ∧ (rd_T49 b p).f0 ≤ 3000 := Years_rd b hy p h.1 (by omega)
    rw [if_pos (by simpa using h), if_pos h.1, if_pos (by omega), w64 _ (by omega)]
    congr 1
    rw [decide_eq_decide]
    constructor
    · intro h1; exact ⟨h.1, by omega, h1⟩
    · intro h1; exact h1.2.2
  · rw [if_neg (by simpa using h)]
    congr 1
    symm
    rw [decide_eq_false_iff_not]
    intro h1
    exact h ⟨h1.1, by omega⟩
theorem faFits (b : List Kn) (k : Kn) (hy : Years b) (hl : b.length ≤ 1073741824) : spec_faFits.f b k.f0 k.f1 k.f2 = some (decide (Fits b b.length k)) := by
  unfold spec_faFits.f
  rw [l1In]
  simp only [Option.bind_some]
  by_cases h0 : 0 ≤ k.f0 ∧ k.f0 ≤ 3000
  · rw [if_pos (by simpa using h0)]
    by_cases h1 : k.f1 = -1
    · rw [if_pos h1]
      congr 1
      rw [Bool.eq_iff_iff, decide_eq_true_iff, beq_iff_eq]
      unfold Fits
      constructor
      · intro h; exact ⟨h0, .inl ⟨h1, h⟩⟩
      · rintro ⟨_, h | h⟩
        · exact h.2
        · omega
    · rw [if_neg h1, faOlder b k.f1 k.f0 hy h0 hl]
      simp only [Option.bind_some]
      by_cases h2 : 0 ≤ k.f1 ∧ k.f1 < (b.length : Int) ∧ 14 ≤ k.f0 - (rdK b k.f1).f0
      · rw [if_pos (by simpa using h2)]
        by_cases h3 : k.f2 = -1
        · rw [if_pos h3]
          congr 1
          symm
          rw [decide_eq_true_iff]
          exact ⟨h0, .inr ⟨h2, .inl h3⟩⟩
        · rw [if_neg h3]
          by_cases h4 : k.f1 < k.f2
          · rw [if_pos h4, faOlder b k.f2 k.f0 hy h0 hl]
            simp only [Option.bind_some]
            congr 1
            rw [decide_eq_decide]
            unfold Fits
            constructor
            · intro h5; exact ⟨h0, .inr ⟨h2, .inr ⟨h4, h5.2.1, h5.2.2⟩⟩⟩
            · rintro ⟨_, h | h⟩
              · omega
              · rcases h.2 with h | h
                · exact absurd h h3
                · exact ⟨by omega, h.2.1, h.2.2⟩
          · rw [if_neg h4]
            congr 1
            symm
            rw [decide_eq_false_iff_not]
            rintro ⟨_, h | h⟩
            · omega
            · rcases h.2 with h | h
              · exact h3 h
              · exact h4 h.1
      · rw [if_neg (by simpa using h2)]
        congr 1
        symm
        rw [decide_eq_false_iff_not]
        rintro ⟨_, h | h⟩
        · omega
        · exact h2 h.1
  · rw [if_neg (by simpa using h0)]
    congr 1
    symm
    rw [decide_eq_false_iff_not]
    exact fun h => h0 h.1
def FamFrom (l : List Kn) (i : Nat) : Prop := ∀ j, i ≤ j → (h : j < l.length) → Fits l j l[j]
theorem FamFrom_step (l : List Kn) (i : Nat) (h : i < l.length) (hf : Fits l i l[i]) : FamFrom l (i + 1) ↔ FamFrom l i := by
  constructor
  · intro h1 j hj hl
    by_cases e : j = i
    · subst e; exact hf
    · exact h1 j (by omega) hl
  · intro h1 j hj hl
    exact h1 j (by omega) hl
def YearsTo (l : List Kn) (i : Nat) : Prop := ∀ j, j < i → (h : j < l.length) → 0 ≤ l[j].f0 ∧ l[j].f0 ≤ 3000
theorem YearsTo_take (l : List Kn) (i : Nat) (h : YearsTo l i) : Years (l.take i) := by
  intro j hj
  rw [List.length_take] at hj
  rw [List.getElem_take]
  exact h j (by omega) (by omega)
theorem YearsTo_step (l : List Kn) (i : Nat) (h : i < l.length) (hf : Fits l i l[i]) (hy : YearsTo l i) : YearsTo l (i + 1) := by
  intro j hj hl
  by_cases e : j = i
  · subst e; exact hf.1
  · exact hy j (by omega) hl
theorem faGood_l (l : List Kn) (hl : l.length ≤ 1073741824) (n : Nat) : ∀ i : Nat, i ≤ l.length → l.length - i ≤ n → YearsTo l i → Ev (fun k => spec_faGood.l0 k l l (l.length : Int) (i : Int)) (dec (FamFrom l i)) := by
  have stop : Ev (fun k => spec_faGood.l0 k l l (l.length : Int) (l.length : Int)) (dec (FamFrom l l.length)) := by
    refine Ev.step (f := fun k => _) (fun k => by rw [spec_faGood.l0]) (ifn (by omega) (evEq now ?_))
    symm
    refine dec_pos ?_
    intro j h1 h2
    omega
  induction n with
  | zero =>
    intro i h1 h2 _
    obtain rfl : i = l.length := by omega
    exact stop
  | succ n ih =>
    intro i h1 h2 hy
    by_cases hi : i < l.length
    · refine Ev.step (f := fun k => _) (fun k => by rw [spec_faGood.l0]) (ifp (by omega) (ifp (by omega) (ifp (by omega) (ifp (by omega) ?_))))
      rw [rdK_get l i hi, Int.toNat_natCast, w64 _ (by omega)]
      have hf := faFits (l.take i) l[i] (YearsTo_take l i hy) (by rw [List.length_take]; omega)
      have e : (l.take i).length = i := by rw [List.length_take]; omega
      rw [e] at hf
      refine call hf ?_
      by_cases hq : Fits l i l[i]
      · refine ifp (by simpa using (Fits_take l i h1 l[i]).2 hq) (evEq (ih (i + 1) (by omega) (by omega) (YearsTo_step l i hi hq hy)) ?_)
        exact dec_congr (FamFrom_step l i hi hq)
      · refine ifn (by simpa using fun h => hq ((Fits_take l i h1 l[i]).1 h)) (evEq now ?_)
        symm
        exact dec_neg fun h => hq (h i (Nat.le_refl _) hi)
    · obtain rfl : i = l.length := by omega
      exact stop
theorem faGood (l : List Kn) (hl : l.length ≤ 1073741824) : Ev (fun k => spec_faGood.f k l) (good l) := by
  unfold spec_faGood.f
  refine call (l1In _ _ _) ?_
  by_cases h : 1 ≤ l.length ∧ l.length ≤ 14
  · refine ifp (by simp; omega) (evEq (faGood_l l hl _ 0 (by omega) (Nat.le_refl _) (fun j hj => absurd hj (Nat.not_lt_zero _))) ?_)
    refine dec_congr ?_
    constructor
    · intro h1; exact ⟨h, fun i hi => h1 i (by omega) hi⟩
    · intro h1 j _ hj; exact h1.2 j hj
  · refine ifn (by simp; omega) (evEq now ?_)
    rw [good_not l fun h1 => h h1.1]
end Go.Proofs.Ytllihaahppelhaa.Pr
namespace Go.Proofs.Ytllihaahppelhaa.Pr
open Go.RowKit Go.Proofs.Ytllihaahppelhaa.P Go.Proofs.YtllihaahppelhaaW.PrintWords Go.Proofs.Ytllihaahppelhaa.E
/-- The program's tests of one of the kin. -/
def Own (i : Nat) (k : Kn) : Prop := (0 ≤ k.f0 ∧ k.f0 ≤ 3000) ∧ (-1 ≤ k.f1 ∧ k.f1 ≤ (i : Int) - 1) ∧ (-1 ≤ k.f2 ∧ k.f2 ≤ (i : Int) - 1) ∧ ¬ (0 ≤ k.f2 ∧ k.f2 ≤ k.f1) ∧ ¬ (k.f1 < 0 ∧ 0 ≤ k.f2)
theorem Fits_own (l : List Kn) (i : Nat) (k : Kn) : Fits l i k ↔ Own i k ∧ ∀ p ∈ ps k, (rdK l p).f0 + 14 ≤ k.f0 := by
  unfold Fits Own
  simp only [mem_ps]
  constructor
  · rintro ⟨h0, h | ⟨h1, h2⟩⟩
    · refine ⟨⟨h0, by omega, by omega, by omega, by omega⟩, ?_⟩
      rintro p ⟨h3 | h3, h4⟩ <;> omega
    · rcases h2 with h2 | h2
      · refine ⟨⟨h0, by omega, by omega, by omega, by omega⟩, ?_⟩
        rintro p ⟨h3 | h3, h4⟩
        · subst h3; omega
        · omega
      · refine ⟨⟨h0, by omega, by omega, by omega, by omega⟩, ?_⟩
        rintro p ⟨h3 | h3, h4⟩
        · subst h3; omega
        · subst h3; omega
  · rintro ⟨⟨h0, h1, h2, h3, h4⟩, h5⟩
    refine ⟨h0, ?_⟩
    by_cases e : k.f1 = -1
    · exact .inl ⟨e, by omega⟩
    · refine .inr ⟨⟨by omega, by omega, ?_⟩, ?_⟩
      · have := h5 k.f1 ⟨.inl rfl, by omega⟩
        omega
      · by_cases e2 : k.f2 = -1
        · exact .inl e2
        · refine .inr ⟨by omega, by omega, ?_⟩
          have := h5 k.f2 ⟨.inr rfl, by omega⟩
          omega
theorem isFamily_l1 (l : List Kn) (i : Nat) (k : Kn) (r : Bool) (L : List Int) (hi : i < l.length) (hL : L.length ≤ 2) (hy : YearsTo l i) (hv : ∀ p ∈ L, 0 ≤ p ∧ p < (i : Int)) (hr : Ev (fun n => impl_IsFamily.l0 n l l (l.length : Int) (wrap64 ((i : Int) + 1))) r) (n : Nat) :
    ∀ j : Nat, j ≤ L.length → L.length - j ≤ n → Ev (fun n => impl_IsFamily.l1 n l l (l.length : Int) (i : Int) L (L.length : Int) (j : Int) k.f0 k.f1 k.f2) (if (∀ p ∈ L.drop j, (rdK l p).f0 + 14 ≤ k.f0) then r else false) := by
  have stop : Ev (fun n => impl_IsFamily.l1 n l l (l.length : Int) (i : Int) L (L.length : Int) (L.length : Int) k.f0 k.f1 k.f2) (if (∀ p ∈ L.drop L.length, (rdK l p).f0 + 14 ≤ k.f0) then r else false) := by
    rw [if_pos (by simp)]
    exact Ev.step (f := fun k => _) (fun k => by rw [impl_IsFamily.l1]) (ifn (by omega) hr)
  induction n with
  | zero =>
    intro j h1 h2
    obtain rfl : j = L.length := by omega
    exact stop
  | succ n ih =>
    intro j h1 h2
    by_cases hj : j < L.length
    · have hp := hv L[j] (List.getElem_mem hj)
      have hb : 0 ≤ (rd_T49 l L[j]).f0 ∧ (rd_T49 l L[j]).f0 ≤ 3000 := by
        obtain ⟨h3, e3⟩ := rdK_int l L[j] hp.1 (by omega)
        rw [e3]; exact hy _ (by omega) h3
      refine Ev.step (f := fun k => _) (fun k => by rw [impl_IsFamily.l1]) (ifp (by omega) (ifp (by omega) (ifp (by omega) ?_)))
      rw [rdI L j hj, w64 (j + 1) (by omega), w64 _ (by omega)]
      refine ifp hp.1 (ifp (by omega) ?_)
      have e : (∀ p ∈ L.drop j, (rdK l p).f0 + 14 ≤ k.f0) ↔ (rdK l L[j]).f0 + 14 ≤ k.f0 ∧ ∀ p ∈ L.drop (j + 1), (rdK l p).f0 + 14 ≤ k.f0 := by
        rw [List.drop_eq_getElem_cons hj]
        simp only [List.mem_cons, forall_eq_or_imp]
      by_cases h3 : (rdK l L[j]).f0 + 14 ≤ k.f0
      · have h3' : (rd_T49 l L[j]).f0 + 14 ≤ k.f0 := h3
        refine ifn (by omega) (evEq (ih (j + 1) (by omega) (by omega)) ?_)
        simp only [e, h3, true_and]
      · have h3' : ¬ (rd_T49 l L[j]).f0 + 14 ≤ k.f0 := h3
        refine ifp (by omega) (evEq now ?_)
        rw [if_neg (fun h => h3 (e.1 h).1)]
    · obtain rfl : j = L.length := by omega
      exact stop
theorem isFamily_j1 (l : List Kn) (i : Nat) (k : Kn) (x r : Bool) (hi : i < l.length) (hy : YearsTo l i) (h0 : 0 ≤ k.f0 ∧ k.f0 ≤ 3000) (h1 : -1 ≤ k.f1 ∧ k.f1 ≤ (i : Int) - 1) (h2 : -1 ≤ k.f2 ∧ k.f2 ≤ (i : Int) - 1) (hx : x = decide ((0 ≤ k.f2 ∧ k.f2 ≤ k.f1) ∨ (k.f1 < 0 ∧ 0 ≤ k.f2)))
    (hr : Ev (fun n => impl_IsFamily.l0 n l l (l.length : Int) (wrap64 ((i : Int) + 1))) r) : Ev (fun n => impl_IsFamily.j1 n l l (l.length : Int) (i : Int) x k.f0 k.f1 k.f2) (if Fits l i k then r else false) := by
  refine Ev.step (f := fun k => _) (fun k => by rw [impl_IsFamily.j1]) ?_
  subst hx
  by_cases h : (0 ≤ k.f2 ∧ k.f2 ≤ k.f1) ∨ (k.f1 < 0 ∧ 0 ≤ k.f2)
  · refine ifp (by simpa using h) (evEq now ?_)
    rw [if_neg]
    intro h3
    have := ((Fits_own l i k).1 h3).1
    unfold Own at this
    rcases h with h | h
    · exact this.2.2.2.1 h
    · exact this.2.2.2.2 h
  · refine ifn (by simpa using h) (call (parents_f k) ?_)
    have h4 := isFamily_l1 l i k r (ps k) hi (ps_len k) hy (fun p hp => by rw [mem_ps] at hp; omega) hr _ 0 (by omega) (Nat.le_refl _)
    refine evEq h4 ?_
    have e : (∀ p ∈ (ps k).drop 0, (rdK l p).f0 + 14 ≤ k.f0) ↔ Fits l i k := by
      rw [Fits_own, List.drop_zero]
      constructor
      · intro h5; exact ⟨⟨h0, h1, h2, fun h6 => h (.inl h6), fun h6 => h (.inr h6)⟩, h5⟩
      · exact fun h5 => h5.2
    simp only [e]
theorem isFamily_l (l : List Kn) (hl : l.length ≤ 1073741824) (n : Nat) : ∀ i : Nat, i ≤ l.length → l.length - i ≤ n → YearsTo l i → Ev (fun k => impl_IsFamily.l0 k l l (l.length : Int) (i : Int)) (dec (FamFrom l i)) := by
  have stop : Ev (fun k => impl_IsFamily.l0 k l l (l.length : Int) (l.length : Int)) (dec (FamFrom l l.length)) := by
    refine Ev.step (f := fun k => _) (fun k => by rw [impl_IsFamily.l0]) (ifn (by omega) (evEq now ?_))
    symm
    refine dec_pos ?_
    intro j h1 h2
    omega
  induction n with
  | zero =>
    intro i h1 h2 _
    obtain rfl : i = l.length := by omega
    exact stop
  | succ n ih =>
    intro i h1 h2 hy
    by_cases hi : i < l.length
    · have key : Ev (fun k => impl_IsFamily.l0 k l l (l.length : Int) (i : Int)) (if Fits l i l[i] then dec (FamFrom l (i + 1)) else false) ∨ Ev (fun k => impl_IsFamily.l0 k l l (l.length : Int) (i : Int)) (if Fits l i l[i] then dec (FamFrom l i) else false) := by
        generalize hk : l[i] = k
        have go : ∀ x : Bool, x = decide ((0 ≤ k.f2 ∧ k.f2 ≤ k.f1) ∨ (k.f1 < 0 ∧ 0 ≤ k.f2)) → (0 ≤ k.f0 ∧ k.f0 ≤ 3000) → (-1 ≤ k.f1 ∧ k.f1 ≤ (i : Int) - 1) → (-1 ≤ k.f2 ∧ k.f2 ≤ (i : Int) - 1) →
            Ev (fun n => impl_IsFamily.j1 n l l (l.length : Int) (i : Int) x k.f0 k.f1 k.f2) (if Fits l i k then dec (FamFrom l i) else false) := by
          intro x hx a0 a1 a2
          by_cases hf : Fits l i k
          · have h3 := ih (i + 1) (by omega) (by omega) (YearsTo_step l i hi (by rw [hk]; exact hf) hy)
            rw [show ((i + 1 : Nat) : Int) = wrap64 ((i : Int) + 1) by rw [w64 _ (by omega)]; rfl] at h3
            refine evEq (isFamily_j1 l i k x _ hi hy a0 a1 a2 hx h3) ?_
            rw [if_pos hf, if_pos hf]
            exact dec_congr (FamFrom_step l i hi (by rw [hk]; exact hf))
          · refine Ev.step (f := fun k => _) (fun k => by rw [impl_IsFamily.j1]) ?_
            subst hx
            rw [if_neg hf]
            by_cases h : (0 ≤ k.f2 ∧ k.f2 ≤ k.f1) ∨ (k.f1 < 0 ∧ 0 ≤ k.f2)
            · exact ifp (by simpa using h) now
            · refine ifn (by simpa using h) (call (parents_f k) ?_)
              have hex : ∃ j : Nat, j ≤ (ps k).length ∧ True := ⟨0, by omega, trivial⟩
              clear hex
              have nf : ¬ ∀ p ∈ ps k, (rdK l p).f0 + 14 ≤ k.f0 := fun h5 => hf ((Fits_own l i k).2 ⟨⟨a0, a1, a2, fun h6 => h (.inl h6), fun h6 => h (.inr h6)⟩, h5⟩)
              have stuck : ∀ (n : Nat) (j : Nat), j ≤ (ps k).length → (ps k).length - j ≤ n → (¬ ∀ p ∈ (ps k).drop j, (rdK l p).f0 + 14 ≤ k.f0) → Ev (fun n => impl_IsFamily.l1 n l l (l.length : Int) (i : Int) (ps k) ((ps k).length : Int) (j : Int) k.f0 k.f1 k.f2) false := by
                intro n
                induction n with
                | zero =>
                  intro j h1 h2 h3
                  exact absurd (by rw [List.drop_eq_nil_of_le (by omega)]; simp) h3
                | succ n ih2 =>
                  intro j h1 h2 h3
                  by_cases hj : j < (ps k).length
                  · have hL := ps_len k
                    have hp : 0 ≤ (ps k)[j] ∧ (ps k)[j] < (i : Int) := by
                      have := (mem_ps k (ps k)[j]).1 (List.getElem_mem hj)
                      omega
                    have hb : 0 ≤ (rd_T49 l (ps k)[j]).f0 ∧ (rd_T49 l (ps k)[j]).f0 ≤ 3000 := by
                      obtain ⟨h3, e3⟩ := rdK_int l (ps k)[j] hp.1 (by omega)
                      rw [e3]; exact hy _ (by omega) h3
                    refine Ev.step (f := fun k => _) (fun k => by rw [impl_IsFamily.l1]) (ifp (by omega) (ifp (by omega) (ifp (by omega) ?_)))
                    rw [rdI (ps k) j hj, w64 (j + 1) (by omega), w64 _ (by omega)]
                    refine ifp hp.1 (ifp (by omega) ?_)
                    by_cases h4 : (rdK l (ps k)[j]).f0 + 14 ≤ k.f0
                    · have h4' : (rd_T49 l (ps k)[j]).f0 + 14 ≤ k.f0 := h4
                      refine ifn (by omega) (ih2 (j + 1) (by omega) (by omega) ?_)
                      intro h5
                      apply h3
                      rw [List.drop_eq_getElem_cons hj]
                      simp only [List.mem_cons, forall_eq_or_imp]
                      exact ⟨h4, h5⟩
                    · have h4' : ¬ (rd_T49 l (ps k)[j]).f0 + 14 ≤ k.f0 := h4
                      exact ifp (by omega) now
                  · exact absurd (by rw [List.drop_eq_nil_of_le (by omega)]; simp) h3
              exact stuck _ 0 (by omega) (Nat.le_refl _) (by simpa using nf)
        have bad : ¬ Fits l i k → (false : Bool) = (if Fits l i k then dec (FamFrom l i) else false) := fun h => by rw [if_neg h]
        refine .inr (Ev.step (f := fun k => _) (fun k => by rw [impl_IsFamily.l0]) (ifp (by omega) (ifp (by omega) (ifp (by omega) ?_))))
        rw [rdK_get l i hi, hk, w64 ((i : Int) - 1) (by omega)]
        refine call (between _ _ _) ?_
        by_cases a0 : 0 ≤ k.f0 ∧ k.f0 ≤ 3000
        · refine ifp (by simpa using a0) (call (between _ _ _) ?_)
          by_cases a1 : -1 ≤ k.f1 ∧ k.f1 ≤ (i : Int) - 1
          · refine ifp (by simpa using a1) (call (between _ _ _) ?_)
            by_cases a2 : -1 ≤ k.f2 ∧ k.f2 ≤ (i : Int) - 1
            · refine ifp (by simpa using a2) ?_
              by_cases b0 : k.f2 ≥ 0
              · refine ifp b0 ?_
                by_cases b1 : k.f2 ≤ k.f1
                · exact ifp b1 (go _ (by symm; rw [decide_eq_true_iff]; omega) a0 a1 a2)
                · refine ifn b1 ?_
                  by_cases b2 : k.f1 < 0
                  · exact ifp b2 (go _ (by rw [decide_eq_decide]; omega) a0 a1 a2)
                  · exact ifn b2 (go _ (by symm; rw [decide_eq_false_iff_not]; omega) a0 a1 a2)
              · refine ifn b0 ?_
                by_cases b2 : k.f1 < 0
                · exact ifp b2 (go _ (by rw [decide_eq_decide]; omega) a0 a1 a2)
                · exact ifn b2 (go _ (by symm; rw [decide_eq_false_iff_not]; omega) a0 a1 a2)
            · refine ifn (by simpa using a2) ?_
              have nf : ¬ Fits l i k := fun h => a2 ((Fits_own l i k).1 h).1.2.2.1
              refine Ev.step (f := fun k => _) (fun k => by rw [impl_IsFamily.j1]) (ifp rfl (evEq now (bad nf)))
          · refine ifn (by simpa using a1) ?_
            have nf : ¬ Fits l i k := fun h => a1 ((Fits_own l i k).1 h).1.2.1
            refine Ev.step (f := fun k => _) (fun k => by rw [impl_IsFamily.j1]) (ifp rfl (evEq now (bad nf)))
        · refine ifn (by simpa using a0) ?_
          have nf : ¬ Fits l i k := fun h => a0 h.1
          refine Ev.step (f := fun k => _) (fun k => by rw [impl_IsFamily.j1]) (ifp rfl (evEq now (bad nf)))
      rcases key with key | key
      · refine evEq key ?_
        by_cases hf : Fits l i l[i]
        · rw [if_pos hf]; exact dec_congr (FamFrom_step l i hi hf)
        · rw [if_neg hf]; symm; exact dec_neg fun h => hf (h i (Nat.le_refl _) hi)
      · refine evEq key ?_
        by_cases hf : Fits l i l[i]
        · rw [if_pos hf]
        · rw [if_neg hf]; symm; exact dec_neg fun h => hf (h i (Nat.le_refl _) hi)
    · obtain rfl : i = l.length := by omega
      exact stop
theorem isFamily (l : List Kn) (hl : l.length ≤ 1073741824) : Ev (fun k => impl_IsFamily.f k l) (good l) := by
  unfold impl_IsFamily.f
  refine call (between _ _ _) ?_
  by_cases h : 1 ≤ l.length ∧ l.length ≤ 14
  · refine ifp (by simp; omega) (evEq (isFamily_l l hl _ 0 (by omega) (Nat.le_refl _) (fun j hj => absurd hj (Nat.not_lt_zero _))) ?_)
    refine dec_congr ?_
    constructor
    · intro h1; exact ⟨h, fun i hi => h1 i (by omega) hi⟩
    · intro h1 j _ hj; exact h1.2 j hj
  · refine ifn (by simp; omega) (evEq now ?_)
    rw [good_not l fun h1 => h h1.1]
end Go.Proofs.Ytllihaahppelhaa.Pr
namespace Go.Proofs.Ytllihaahppelhaa.Pr
open Go.RowKit Go.Proofs.Ytllihaahppelhaa.P Go.Proofs.YtllihaahppelhaaW.PrintWords Go.Proofs.Ytllihaahppelhaa.E
def inR (l : List Kn) (i : Int) : Bool := decide (0 ≤ i ∧ i < (l.length : Int))
theorem inR_iff (l : List Kn) (i : Int) : inR l i = true ↔ 0 ≤ i ∧ i < (l.length : Int) := by unfold inR; exact decide_eq_true_iff
theorem faWho (l : List Kn) (hl : l.length ≤ 1073741824) (a : Int) : Ev (fun k => spec_faWho.f k l a) (good l && inR l a) := by
  unfold spec_faWho.f
  refine Ev.bind (faGood l hl) ?_
  cases good l with
  | true =>
    refine ifp rfl (call (l1In _ _ _) (evEq now ?_))
    rw [w64 _ (by omega), Bool.true_and]
    unfold inR
    rw [decide_eq_decide]; omega
  | false => exact ifn (by simp) now
theorem areBetween_f (L : List Int) (lo hi : Int) : impl_areBetween.f L lo hi = some (L.all fun n => decide (lo ≤ n) && decide (n ≤ hi)) := rfl
theorem hasKin (l : List Kn) (hl : l.length ≤ 1073741824) (L : List Int) : Ev (fun k => impl_hasKin.f k l L) (good l && L.all (inR l)) := by
  unfold impl_hasKin.f
  refine Ev.bind (isFamily l hl) ?_
  cases good l with
  | true =>
    refine ifp rfl (call (areBetween_f _ _ _) (evEq now ?_))
    rw [w64 _ (by omega), Bool.true_and]
    congr 1
    funext n
    unfold inR
    rw [Bool.eq_iff_iff]
    simp
    omega
  | false => exact ifn (by simp) now
end Go.Proofs.Ytllihaahppelhaa.Pr
namespace Go.Proofs.Ytllihaahppelhaa.Pr
open Go.RowKit Go.Proofs.Ytllihaahppelhaa.P Go.Proofs.YtllihaahppelhaaW.PrintWords Go.Proofs.Ytllihaahppelhaa.E
theorem faParents_l (L : List Int) (hL : L.length ≤ 1000) (n : Nat) : ∀ (i : Nat) (acc : List Int), i ≤ L.length → L.length - i ≤ n → acc.length ≤ i →
    Ev (fun k => spec_faParents.l0 k acc L (L.length : Int) (i : Int)) (acc ++ (L.drop i).filter fun x => !decide (x < 0)) := by
  induction n with
  | zero =>
    intro i acc h1 h2 h3
    obtain rfl : i = L.length := by omega
    refine Ev.step (f := fun k => _) (fun k => by rw [spec_faParents.l0]) (ifn (by omega) (evEq now ?_))
    simp
  | succ n ih =>
    intro i acc h1 h2 h3
    by_cases hi : i < L.length
    · refine Ev.step (f := fun k => _) (fun k => by rw [spec_faParents.l0]) (ifp (by omega) (ifp (by omega) (ifp (by omega) ?_)))
      rw [rdI L i hi, w64 _ (by omega), List.drop_eq_getElem_cons hi]
      by_cases hx : L[i] ≥ 0
      · refine ifp hx (ifp (by omega) (evEq (ih (i + 1) (acc ++ [L[i]]) (by omega) (by omega) (by simp; omega)) ?_))
        rw [List.filter_cons_of_pos (by simpa using hx)]
        simp
      · refine ifn hx (evEq (ih (i + 1) acc (by omega) (by omega) (by omega)) ?_)
        rw [List.filter_cons_of_neg (by simp; omega)]
    · obtain rfl : i = L.length := by omega
      refine Ev.step (f := fun k => _) (fun k => by rw [spec_faParents.l0]) (ifn (by omega) (evEq now ?_))
      simp
theorem faParents (l : List Kn) (i : Nat) (hi : i < l.length) : Ev (fun k => spec_faParents.f k l (i : Int)) (ps l[i]) := by
  unfold spec_faParents.f
  refine ifp (by omega) (ifp (by omega) ?_)
  rw [rdK_get l i hi]
  exact faParents_l [l[i].f1, l[i].f2] (by simp) _ 0 [] (by omega) (Nat.le_refl _) (by simp)
theorem l1Has_l (x : Int) (L : List Int) (hL : L.length ≤ 1073741824) (n : Nat) : ∀ i : Nat, i ≤ L.length → L.length - i ≤ n → Ev (fun k => spec_l1Has.l0 k x L (L.length : Int) (i : Int)) ((L.drop i).contains x) := by
  induction n with
  | zero =>
    intro i h1 h2
    obtain rfl : i = L.length := by omega
    exact Ev.step (f := fun k => _) (fun k => by rw [spec_l1Has.l0]) (ifn (by omega) (evEq now (by simp)))
  | succ n ih =>
    intro i h1 h2
    by_cases hi : i < L.length
    · refine Ev.step (f := fun k => _) (fun k => by rw [spec_l1Has.l0]) (ifp (by omega) (ifp (by omega) (ifp (by omega) ?_)))
      rw [rdI L i hi, w64 _ (by omega), List.drop_eq_getElem_cons hi, List.contains_cons]
      by_cases hx : L[i] = x
      · exact ifp hx (evEq now (by simp [hx]))
      · have h5 : (x == L[i]) = false := by simpa using fun h => hx h.symm
        rw [h5, Bool.false_or]
        exact ifn hx (ih (i + 1) (by omega) (by omega))
    · obtain rfl : i = L.length := by omega
      exact Ev.step (f := fun k => _) (fun k => by rw [spec_l1Has.l0]) (ifn (by omega) (evEq now (by simp)))
theorem l1Has (x : Int) (L : List Int) (hL : L.length ≤ 1073741824) : Ev (fun k => spec_l1Has.f k L x) (L.contains x) := l1Has_l x L hL _ 0 (by omega) (Nat.le_refl _)
end Go.Proofs.Ytllihaahppelhaa.Pr
namespace Go.Proofs.Ytllihaahppelhaa.Pr
open Go.RowKit Go.Proofs.Ytllihaahppelhaa.P Go.Proofs.YtllihaahppelhaaW.PrintWords Go.Proofs.Ytllihaahppelhaa.E
/-- The parents of somebody. -/
abbrev pp (l : List Kn) (i : Int) : List Int := ps (rdK l i)
theorem faParentsI (l : List Kn) (i : Int) (h : 0 ≤ i ∧ i < (l.length : Int)) : Ev (fun k => spec_faParents.f k l i) (pp l i) := by
  obtain ⟨h2, e2⟩ := rdK_int l i h.1 h.2
  have := faParents l i.toNat h2
  rw [Int.toNat_of_nonneg h.1] at this
  show Ev _ (ps (rd_T49 l i))
  rw [e2]
  exact this
theorem Fam_pp (l : List Kn) (hf : Fam l) (i p : Int) (hi : 0 ≤ i ∧ i < (l.length : Int)) (hp : p ∈ pp l i) : 0 ≤ p ∧ p < i := by
  obtain ⟨h2, e2⟩ := rdK_int l i hi.1 hi.2
  change p ∈ ps (rd_T49 l i) at hp
  rw [e2] at hp
  have h3 := hf.2 _ h2
  have h4 := (mem_ps _ p).1 hp
  unfold Fits at h3
  omega
end Go.Proofs.Ytllihaahppelhaa.Pr
namespace Go.Proofs.Ytllihaahppelhaa.Pr
open Go.RowKit Go.Proofs.Ytllihaahppelhaa.P Go.Proofs.YtllihaahppelhaaW.PrintWords Go.Proofs.Ytllihaahppelhaa.E
/-- Two increasing lists of the same numbers are one. -/
theorem inc_ext : ∀ (xs ys : List Int), xs.Pairwise (· < ·) → ys.Pairwise (· < ·) → (∀ x, x ∈ xs ↔ x ∈ ys) → xs = ys
  | [], [], _, _, _ => rfl
  | [], y :: ys, _, _, h => by have := (h y).2 (List.mem_cons_self ..); cases this
  | x :: xs, [], _, _, h => by have := (h x).1 (List.mem_cons_self ..); cases this
  | x :: xs, y :: ys, hx, hy, h => by
    have hx' := List.pairwise_cons.1 hx
    have hy' := List.pairwise_cons.1 hy
    have e : x = y := by
      rcases List.mem_cons.1 ((h x).1 (List.mem_cons_self ..)) with e | e
      · exact e
      · rcases List.mem_cons.1 ((h y).2 (List.mem_cons_self ..)) with e2 | e2
        · exact e2.symm
        · have := hy'.1 x e
          have := hx'.1 y e2
          omega
    subst e
    congr 1
    refine inc_ext xs ys hx'.2 hy'.2 (fun z => ⟨fun hz => ?_, fun hz => ?_⟩)
    · rcases List.mem_cons.1 ((h z).1 (List.mem_cons_of_mem _ hz)) with e | e
      · have := hx'.1 z hz
        omega
      · exact e
    · rcases List.mem_cons.1 ((h z).2 (List.mem_cons_of_mem _ hz)) with e | e
      · have := hy'.1 z hz
        omega
      · exact e
theorem arr_get (xs : List Int) (j : Nat) (h : j < xs.length) : xs.toArray[j]! = xs[j] := by simp [getElem!_pos, h]
theorem cmp_up (xs : List Int) (hs : xs.Pairwise (· ≤ ·)) : ∀ m, m ≤ xs.length → (Lib.compactUpTo xs.toArray m).Pairwise (· < ·) ∧ ∀ x, x ∈ Lib.compactUpTo xs.toArray m ↔ x ∈ xs.take m := by
  intro m
  induction m with
  | zero => intro _; exact ⟨by simp [Lib.compactUpTo], by simp [Lib.compactUpTo]⟩
  | succ m ih =>
    intro hm
    obtain ⟨h1, h2⟩ := ih (by omega)
    have hlt : m < xs.length := by omega
    have ht : xs.take (m + 1) = xs.take m ++ [xs[m]] := List.take_succ_eq_append_getElem hlt
    have hle : ∀ x, x ∈ xs.take m → x ≤ xs[m] := by
      intro x hx
      obtain ⟨i, hi, rfl⟩ := List.mem_iff_getElem.1 hx
      rw [List.length_take] at hi
      rw [List.getElem_take]
      exact List.pairwise_iff_getElem.1 hs i m (by omega) hlt (by omega)
    rw [Lib.compactUpTo_succ]
    cases hk : Lib.keeps xs.toArray m with
    | true =>
      have hlt2 : ∀ x, x ∈ xs.take m → x < xs[m] := by
        intro x hx
        have h3 := hle x hx
        obtain ⟨i, hi, e⟩ := List.mem_iff_getElem.1 hx
        rw [List.length_take] at hi
        have hm0 : m ≠ 0 := by omega
        have hne : xs[m] ≠ xs[m - 1] := by
          unfold Lib.keeps at hk
          rw [arr_get xs m hlt, arr_get xs (m - 1) (by omega)] at hk
          simpa [hm0] using hk
        have h4 : xs[m - 1] ≤ xs[m] := List.pairwise_iff_getElem.1 hs (m - 1) m (by omega) hlt (by omega)
        have h5 : x ≤ xs[m - 1] := by
          rw [← e, List.getElem_take]
          by_cases h6 : i = m - 1
          · subst h6; exact Int.le_refl _
          · exact List.pairwise_iff_getElem.1 hs i (m - 1) (by omega) (by omega) (by omega)
        omega
      rw [if_pos rfl, arr_get xs m hlt, ht]
      refine ⟨List.pairwise_append.2 ⟨h1, by simp, fun a ha b hb => ?_⟩, fun x => ?_⟩
      · rw [List.mem_singleton.1 hb]
        exact hlt2 a ((h2 a).1 ha)
      · rw [List.mem_append, List.mem_append, h2 x]
    | false =>
      rw [if_neg (by simp), List.append_nil, ht]
      refine ⟨h1, fun x => ?_⟩
      rw [List.mem_append, h2 x]
      refine ⟨Or.inl, fun h => ?_⟩
      rcases h with h | h
      · exact h
      · have hm0 : m ≠ 0 := by
          rintro rfl
          simp [Lib.keeps] at hk
        have he : xs[m] = xs[m - 1] := by
          unfold Lib.keeps at hk
          rw [arr_get xs m hlt, arr_get xs (m - 1) (by omega)] at hk
          simpa [hm0] using hk
        rw [List.mem_singleton.1 h, he]
        refine List.mem_iff_getElem.2 ⟨m - 1, by rw [List.length_take]; omega, ?_⟩
        rw [List.getElem_take]
/-- Numbers in order, each once. -/
def dist (xs : List Int) : List Int := Lib.compact (xs.mergeSort fun x y => decide (x ≤ y))
theorem sorted (xs : List Int) : (xs.mergeSort fun x y => decide (x ≤ y)).Pairwise (· ≤ ·) := by
  have h := List.pairwise_mergeSort (le := fun x y : Int => decide (x ≤ y)) (fun a b c h1 h2 => by simp at *; omega) (fun a b => by simp; omega) xs
  exact h.imp (fun h => by simpa using h)
theorem dist_inc (xs : List Int) : (dist xs).Pairwise (· < ·) := (cmp_up _ (sorted xs) _ (Nat.le_of_eq (by simp))).1
theorem dist_mem (xs : List Int) (x : Int) : x ∈ dist xs ↔ x ∈ xs := by
  have h := (cmp_up _ (sorted xs) _ (Nat.le_refl _)).2 x
  unfold dist Lib.compact
  rw [h, List.take_length, List.mem_mergeSort]
/-- All whole numbers below n of which something is so. -/
noncomputable def upTo (n : Nat) (p : Int → Prop) : List Int := ((List.range n).filter fun i : Nat => dec (p (i : Int))).map fun i : Nat => (i : Int)
theorem upTo_mem (n : Nat) (p : Int → Prop) (x : Int) : x ∈ upTo n p ↔ (0 ≤ x ∧ x < (n : Int)) ∧ p x := by
  unfold upTo
  rw [List.mem_map]
  constructor
  · rintro ⟨i, hi, rfl⟩
    have h := List.mem_filter.1 hi
    have h2 := List.mem_range.1 h.1
    exact ⟨by omega, (dec_iff _).1 h.2⟩
  · rintro ⟨h, hp⟩
    refine ⟨x.toNat, List.mem_filter.2 ⟨List.mem_range.2 (by omega), ?_⟩, by omega⟩
    rw [show ((x.toNat : Nat) : Int) = x by omega]
    exact dec_pos hp
theorem upTo_inc (n : Nat) (p : Int → Prop) : (upTo n p).Pairwise (· < ·) := by
  unfold upTo
  refine List.Pairwise.map _ (fun a b h => ?_) ((List.pairwise_lt_range (n := n)).filter _)
  exact Int.ofNat_lt.2 h
theorem upTo_len (n : Nat) (p : Int → Prop) : (upTo n p).length ≤ n := by
  unfold upTo
  rw [List.length_map]
  exact Nat.le_trans (List.length_filter_le _ _) (by simp)
theorem upTo_eq (n : Nat) (p : Int → Prop) (xs : List Int) (hi : xs.Pairwise (· < ·)) (h : ∀ x, x ∈ xs ↔ (0 ≤ x ∧ x < (n : Int)) ∧ p x) : xs = upTo n p :=
  inc_ext _ _ hi (upTo_inc n p) (fun x => (h x).trans (upTo_mem n p x).symm)
/-- x is an ancestor of y. -/
inductive Anc (l : List Kn) : Int → Int → Prop
  | one {x y : Int} (h : x ∈ pp l y) : Anc l x y
  | more {x y z : Int} (h : x ∈ pp l y) (k : Anc l y z) : Anc l x z
theorem Anc_lt (l : List Kn) (hf : Fam l) (x y : Int) (h : Anc l x y) (hy : 0 ≤ y ∧ y < (l.length : Int)) : 0 ≤ x ∧ x < y := by
  induction h with
  | one h => exact Fam_pp l hf _ _ hy h
  | more h k ih =>
    have h1 := ih hy
    have h2 := Fam_pp l hf _ _ (by omega) h
    omega
theorem Anc_by (l : List Kn) (x z : Int) : Anc l x z ↔ ∃ p, p ∈ pp l z ∧ (x = p ∨ Anc l x p) := by
  constructor
  · intro h
    induction h with
    | one h => exact ⟨_, h, .inl rfl⟩
    | more h k ih =>
      obtain ⟨p, hp, h1⟩ := ih
      refine ⟨p, hp, .inr ?_⟩
      rcases h1 with rfl | h1
      · exact .one h
      · exact .more h h1
  · rintro ⟨p, hp, rfl | h⟩
    · exact .one hp
    · induction h with
      | one h => exact .more h (.one hp)
      | more h k ih => exact .more h (ih hp)
theorem Anc_up (l : List Kn) (x z : Int) : Anc l x z ↔ ∃ y, (y = z ∨ Anc l y z) ∧ x ∈ pp l y := by
  constructor
  · intro h
    cases h with
    | one h => exact ⟨_, .inl rfl, h⟩
    | more h k => exact ⟨_, .inr k, h⟩
  · rintro ⟨y, rfl | h, hx⟩
    · exact .one hx
    · exact .more hx h
noncomputable def ancs (l : List Kn) (i : Int) : List Int := upTo l.length fun j => Anc l j i
end Go.Proofs.Ytllihaahppelhaa.Pr
namespace Go.Proofs.Ytllihaahppelhaa.Pr
open Go.RowKit Go.Proofs.Ytllihaahppelhaa.P Go.Proofs.YtllihaahppelhaaW.PrintWords Go.Proofs.Ytllihaahppelhaa.E
/-- There is a walk of so many steps. -/
inductive Wk (nx : Int → List Int) (s : Int) : Int → Nat → Prop
  | now : Wk nx s s 0
  | on {u v : Int} {m : Nat} (h : Wk nx s u m) (k : v ∈ nx u) : Wk nx s v (m + 1)
/-- d is the least number of steps to x, -1 if there is no walk. -/
def Least (nx : Int → List Int) (s x d : Int) : Prop := (d = -1 ∧ ∀ m, ¬ Wk nx s x m) ∨ ∃ m : Nat, d = m ∧ Wk nx s x m ∧ ∀ k, Wk nx s x k → m ≤ k
theorem Least_one (nx : Int → List Int) (s x d e : Int) (h : Least nx s x d) (k : Least nx s x e) : d = e := by
  rcases h with ⟨h1, h2⟩ | ⟨m, h1, h2, h3⟩
  · rcases k with ⟨k1, k2⟩ | ⟨m', k1, k2, k3⟩
    · omega
    · exact absurd k2 (h2 _)
  · rcases k with ⟨k1, k2⟩ | ⟨m', k1, k2, k3⟩
    · exact absurd h2 (k2 _)
    · have := h3 _ k2
      have := k3 _ h2
      omega
/-- Different numbers below n are at most n. -/
theorem few (n : Nat) : ∀ (qu : List Int), qu.Nodup → (∀ x ∈ qu, 0 ≤ x ∧ x < (n : Int)) → qu.length ≤ n := by
  induction n with
  | zero =>
    intro qu _ h
    cases qu with
    | nil => simp
    | cons x t => have := h x (List.mem_cons_self ..); omega
  | succ n ih =>
    intro qu hd h
    by_cases hm : (n : Int) ∈ qu
    · have h1 := ih (qu.erase (n : Int)) (hd.erase _) (fun x hx => by
        have h2 := (List.Nodup.mem_erase_iff hd).1 hx
        have h3 := h x h2.2
        omega)
      rw [List.length_erase_of_mem hm] at h1
      omega
    · have h1 := ih qu hd (fun x hx => by
        have h3 := h x hx
        have h4 : x ≠ (n : Int) := fun e => hm (e ▸ hx)
        omega)
      omega
theorem rd_set_same (out : List Int) (k v : Int) (h : 0 ≤ k ∧ k < (out.length : Int)) : rd (out.set k.toNat v) k = v := by
  unfold rd
  rw [List.getD_eq_getElem?_getD, List.getElem?_set_self (by omega)]
  rfl
theorem rd_set_ne (out : List Int) (k x v : Int) (h : 0 ≤ k ∧ 0 ≤ x ∧ x ≠ k) : rd (out.set k.toNat v) x = rd out x := by
  unfold rd
  rw [List.getD_eq_getElem?_getD, List.getElem?_set_ne (by omega), List.getD_eq_getElem?_getD]
theorem rd_app (qu : List Int) (x : Int) (j : Nat) (h : j < qu.length) : rd (qu ++ [x]) (j : Int) = rd qu (j : Int) := by
  rw [rdI _ j (by simp; omega), rdI _ j h, List.getElem_append_left h]
theorem rd_mem (qu : List Int) (j : Nat) (h : j < qu.length) : rd qu (j : Int) ∈ qu := by
  rw [rdI _ j h]; exact List.getElem_mem h
/-- What holds of the table and the queue, i of which have been taken. -/
structure Bfs (nx : Int → List Int) (s : Int) (n : Nat) (out qu : List Int) (i : Nat) : Prop where
  len : out.length = n
  qr : ∀ x ∈ qu, 0 ≤ x ∧ x < (n : Int)
  nd : qu.Nodup
  val : ∀ x, 0 ≤ x → x < (n : Int) → (rd out x = -1 ∧ x ∉ qu) ∨ (x ∈ qu ∧ ∃ m : Nat, rd out x = m ∧ Wk nx s x m)
  srt : qu.Pairwise (fun x y => rd out x ≤ rd out y)
  top : i < qu.length → ∀ x ∈ qu, rd out x ≤ rd out (rd qu (i : Int)) + 1
  old : ∀ j, j < i → j < qu.length → ∀ v ∈ nx (rd qu (j : Int)), v ∈ qu ∧ rd out v ≤ rd out (rd qu (j : Int)) + 1
  str : s ∈ qu ∧ rd out s = 0
theorem Bfs.few_ {nx : Int → List Int} {s : Int} {n : Nat} {out qu : List Int} {i : Nat} (h : Bfs nx s n out qu i) : qu.length ≤ n := few n qu h.nd h.qr
theorem Bfs.start (nx : Int → List Int) (s : Int) (n : Nat) (hs : 0 ≤ s ∧ s < (n : Int)) : Bfs nx s n ((List.replicate n (-1)).set s.toNat 0) [s] 0 where
  len := by simp
  qr := fun x hx => by rw [List.mem_singleton.1 hx]; exact hs
  nd := by simp
  val := fun x h0 h1 => by
    by_cases e : x = s
    · subst e
      exact .inr ⟨by simp, 0, by rw [rd_set_same _ _ _ (by simpa using hs)]; rfl, .now⟩
    · refine .inl ⟨?_, by simpa using e⟩
      rw [rd_set_ne _ _ _ _ ⟨hs.1, h0, e⟩, ← Int.toNat_of_nonneg h0, rdI _ _ (by simp; omega)]
      simp
  srt := by simp
  top := fun _ x hx => by
    rw [List.mem_singleton.1 hx]
    show _ ≤ rd _ (rd [s] 0) + 1
    have : rd [s] 0 = s := rfl
    rw [this]; omega
  old := fun j hj => absurd hj (Nat.not_lt_zero _)
  str := ⟨by simp, rd_set_same _ _ _ (by simpa using hs)⟩
/-- A new one. -/
theorem Bfs.push {nx : Int → List Int} {s : Int} {n : Nat} {out qu : List Int} {i : Nat} (h : Bfs nx s n out qu i) (hi : i < qu.length) (k : Int) (hk : 0 ≤ k ∧ k < (n : Int)) (hn : rd out k < 0) (hm : k ∈ nx (rd qu (i : Int))) :
    Bfs nx s n (out.set k.toNat (rd out (rd qu (i : Int)) + 1)) (qu ++ [k]) i := by
  have hq : k ∉ qu := by
    intro hk2
    rcases h.val k hk.1 hk.2 with ⟨_, h2⟩ | ⟨_, m, h2, _⟩
    · exact h2 hk2
    · omega
  have hl : 0 ≤ k ∧ k < (out.length : Int) := by rw [h.len]; exact hk
  have same : ∀ x ∈ qu, rd (out.set k.toNat (rd out (rd qu (i : Int)) + 1)) x = rd out x := fun x hx => rd_set_ne _ _ _ _ ⟨hk.1, (h.qr x hx).1, fun e => hq (e ▸ hx)⟩
  have new : rd (out.set k.toNat (rd out (rd qu (i : Int)) + 1)) k = rd out (rd qu (i : Int)) + 1 := rd_set_same _ _ _ hl
  have hqi := rd_mem qu i hi
  refine ⟨by rw [List.length_set]; exact h.len, ?_, ?_, ?_, ?_, ?_, ?_, ?_⟩
  · intro x hx
    rcases List.mem_append.1 hx with hx | hx
    · exact h.qr x hx
    · rw [List.mem_singleton.1 hx]; exact hk
  · refine List.nodup_append.2 ⟨h.nd, by simp, fun a ha b hb e => ?_⟩
    rw [List.mem_singleton.1 hb] at e
    exact hq (e ▸ ha)
  · intro x h0 h1
    by_cases e : x = k
    · subst e
      refine .inr ⟨by simp, ?_⟩
      rcases h.val _ (h.qr _ hqi).1 (h.qr _ hqi).2 with ⟨_, h2⟩ | ⟨_, m, h2, h3⟩
      · exact absurd hqi h2
      · exact ⟨m + 1, by rw [new, h2]; rfl, .on h3 hm⟩
    · rw [rd_set_ne _ _ _ _ ⟨hk.1, h0, e⟩]
      rcases h.val x h0 h1 with ⟨h2, h3⟩ | ⟨h2, h3⟩
      · refine .inl ⟨h2, fun h4 => ?_⟩
        rcases List.mem_append.1 h4 with h4 | h4
        · exact h3 h4
        · exact e (List.mem_singleton.1 h4)
      · exact .inr ⟨List.mem_append_left _ h2, h3⟩
  · refine List.pairwise_append.2 ⟨?_, by simp, fun a ha b hb => ?_⟩
    · refine h.srt.imp_of_mem (fun {a b} ha hb hab => ?_)
      rw [same a ha, same b hb]; exact hab
    · rw [List.mem_singleton.1 hb, same a ha, new]
      exact h.top hi a ha
  · intro _ x hx
    rw [rd_app qu k i hi, same _ hqi]
    rcases List.mem_append.1 hx with hx | hx
    · rw [same x hx]; exact h.top hi x hx
    · rw [List.mem_singleton.1 hx, new]; omega
  · intro j hj hj2 v hv
    have hj3 : j < qu.length := by omega
    rw [rd_app qu k j hj3] at hv ⊢
    obtain ⟨h2, h3⟩ := h.old j hj hj3 v hv
    rw [same _ (rd_mem qu j hj3), same v h2]
    exact ⟨List.mem_append_left _ h2, h3⟩
  · exact ⟨List.mem_append_left _ h.str.1, by rw [same _ h.str.1]; exact h.str.2⟩
/-- The next one is taken. -/
theorem Bfs.next {nx : Int → List Int} {s : Int} {n : Nat} {out qu : List Int} {i : Nat} (h : Bfs nx s n out qu i) (hi : i < qu.length) (hall : ∀ v ∈ nx (rd qu (i : Int)), v ∈ qu) : Bfs nx s n out qu (i + 1) := by
  refine ⟨h.len, h.qr, h.nd, h.val, h.srt, fun hi2 x hx => ?_, fun j hj hj2 v hv => ?_, h.str⟩
  · have h1 := h.top hi x hx
    have h2 := List.pairwise_iff_getElem.1 h.srt i (i + 1) hi hi2 (by omega)
    rw [← rdI qu i hi, ← rdI qu (i + 1) hi2] at h2
    omega
  · by_cases e : j = i
    · subst e
      exact ⟨hall v hv, h.top hi v (hall v hv)⟩
    · exact h.old j (by omega) hj2 v hv
/-- All have been taken: the table tells the least numbers of steps. -/
theorem Bfs.done {nx : Int → List Int} {s : Int} {n : Nat} {out qu : List Int} {i : Nat} (h : Bfs nx s n out qu i) (hi : qu.length ≤ i) (x : Int) (h0 : 0 ≤ x ∧ x < (n : Int)) : Least nx s x (rd out x) := by
  have key : ∀ v m, Wk nx s v m → v ∈ qu ∧ rd out v ≤ (m : Int) := by
    intro v m hw
    induction hw with
    | now => exact ⟨h.str.1, by rw [h.str.2]; omega⟩
    | on hw hk ih =>
      obtain ⟨h1, h2⟩ := ih
      obtain ⟨j, hj, e⟩ := List.mem_iff_getElem.1 h1
      have e2 : rd qu (j : Int) = _ := (rdI qu j hj).trans e
      have h3 := h.old j (by omega) hj
      rw [e2] at h3
      obtain ⟨h4, h5⟩ := h3 _ hk
      exact ⟨h4, by omega⟩
  rcases h.val x h0.1 h0.2 with ⟨h1, h2⟩ | ⟨h1, m, h2, h3⟩
  · exact .inl ⟨h1, fun m hm => h2 (key x m hm).1⟩
  · refine .inr ⟨m, h2, h3, fun k hk => ?_⟩
    have := (key x k hk).2
    omega
end Go.Proofs.Ytllihaahppelhaa.Pr
namespace Go.Proofs.Ytllihaahppelhaa.Pr
open Go.RowKit Go.Proofs.Ytllihaahppelhaa.P Go.Proofs.YtllihaahppelhaaW.PrintWords Go.Proofs.Ytllihaahppelhaa.E
/-- Values are less than there are in the queue. -/
def Low (out qu : List Int) : Prop := ∀ x ∈ qu, rd out x + 1 ≤ (qu.length : Int)
theorem inn_ok (N : Int → List Int) (s : Int) (n : Nat) (hn : n ≤ 1000) (i : Nat) (q : Int) (ks : List Int) : ∀ (out qu : List Int), Bfs N s n out qu i → Low out qu → i < qu.length → rd qu (i : Int) = q → (∀ y ∈ ks, y ∈ N q ∧ 0 ≤ y ∧ y < (n : Int)) →
    ∃ o2 q2, impl_steps.inn (i : Int) ks out qu = some (o2, q2) ∧ Bfs N s n o2 q2 i ∧ Low o2 q2 ∧ i < q2.length ∧ rd q2 (i : Int) = q ∧ (∀ y ∈ qu, y ∈ q2) ∧ ∀ y ∈ ks, y ∈ q2 := by
  induction ks with
  | nil => intro out qu h hl hi hq _; exact ⟨out, qu, rfl, h, hl, hi, hq, fun _ h => h, fun y hy => by cases hy⟩
  | cons y ks ih =>
    intro out qu h hl hi hq hks
    obtain ⟨hyN, hy0, hy1⟩ := hks y (List.mem_cons_self ..)
    have hks' : ∀ z ∈ ks, z ∈ N q ∧ 0 ≤ z ∧ z < (n : Int) := fun z hz => hks z (List.mem_cons_of_mem _ hz)
    have hlen := h.len
    have hfew := h.few_
    have hqm := rd_mem qu i hi
    rw [hq] at hqm
    have hqr := h.qr q hqm
    simp only [impl_steps.inn]
    rw [if_pos ⟨hy0, by omega⟩]
    by_cases hneg : rd out y < 0
    · obtain ⟨m, hm, _⟩ : ∃ m : Nat, rd out q = m ∧ Wk N s q m := by
        rcases h.val q hqr.1 hqr.2 with ⟨_, h2⟩ | ⟨_, h2⟩
        · exact absurd hqm h2
        · exact h2
      have hlq := hl q hqm
      rw [if_pos hneg, if_pos ⟨by rw [hq]; omega, by rw [hq]; omega, by omega⟩, hq]
      have hp := h.push hi y ⟨hy0, hy1⟩ hneg (by rw [hq]; exact hyN)
      rw [hq] at hp
      have hyq : y ∉ qu := by
        intro hy2
        rcases h.val y hy0 hy1 with ⟨_, h2⟩ | ⟨_, m2, h2, _⟩
        · exact h2 hy2
        · omega
      have hl2 : Low (out.set y.toNat (rd out q + 1)) (qu ++ [y]) := by
        intro x hx
        rw [List.length_append, List.length_singleton]
        rcases List.mem_append.1 hx with hx | hx
        · have h3 := hl x hx
          rw [rd_set_ne _ _ _ _ ⟨hy0, (h.qr x hx).1, fun e => hyq (e ▸ hx)⟩]
          omega
        · rw [List.mem_singleton.1 hx, rd_set_same _ _ _ ⟨hy0, by omega⟩]
          omega
      obtain ⟨o2, q2, e, h4, h5, h6, h7, h8, h9⟩ := ih _ _ hp hl2 (by rw [List.length_append]; omega) (by rw [rd_app qu y i hi]; exact hq) hks'
      refine ⟨o2, q2, e, h4, h5, h6, h7, fun z hz => h8 z (List.mem_append_left _ hz), fun z hz => ?_⟩
      rcases List.mem_cons.1 hz with rfl | hz
      · exact h8 _ (List.mem_append_right _ (by simp))
      · exact h9 z hz
    · rw [if_neg hneg]
      obtain ⟨o2, q2, e, h4, h5, h6, h7, h8, h9⟩ := ih out qu h hl hi hq hks'
      refine ⟨o2, q2, e, h4, h5, h6, h7, h8, fun z hz => ?_⟩
      rcases List.mem_cons.1 hz with rfl | hz
      · rcases h.val z hy0 hy1 with ⟨h2, _⟩ | ⟨h2, _⟩
        · omega
        · exact h8 z h2
      · exact h9 z hz
theorem lp_ok (nx : Int → Option (List Int)) (N : Int → List Int) (s : Int) (n : Nat) (hn : n ≤ 1000) (hN : ∀ x, 0 ≤ x → x < (n : Int) → nx x = some (N x) ∧ ∀ y ∈ N x, 0 ≤ y ∧ y < (n : Int)) (f : Nat) : ∀ (out qu : List Int) (i : Nat), Bfs N s n out qu i → Low out qu → i ≤ qu.length → n + 1 - i ≤ f →
    ∃ far, impl_steps.lp nx f out qu i = some far ∧ far.length = n ∧ ∀ x, 0 ≤ x ∧ x < (n : Int) → Least N s x (rd far x) := by
  induction f with
  | zero => intro out qu i h _ hi hf; have := h.few_; omega
  | succ f ih =>
    intro out qu i h hl hi hf
    have hfew := h.few_
    rw [impl_steps.lp]
    by_cases hlt : i < qu.length
    · have hqr := h.qr _ (rd_mem qu i hlt)
      obtain ⟨h1, h2⟩ := hN _ hqr.1 hqr.2
      obtain ⟨o2, q2, e, h4, h5, h6, h7, _, h9⟩ := inn_ok N s n hn i _ (N (rd qu (i : Int))) out qu h hl hlt rfl (fun y hy => ⟨hy, h2 y hy⟩)
      rw [if_pos hlt, h1, Option.bind_some, e, Option.bind_some]
      exact ih o2 q2 (i + 1) (h4.next h6 (by rw [h7]; exact h9)) h5 (by omega) (by omega)
    · rw [if_neg hlt]
      exact ⟨out, rfl, h.len, fun x hx => h.done (by omega) x hx⟩
theorem steps_ok (nx : Int → Option (List Int)) (N : Int → List Int) (s : Int) (n : Nat) (h1 : 1 ≤ n) (hn : n ≤ 1000) (hs : 0 ≤ s ∧ s < (n : Int)) (hN : ∀ x, 0 ≤ x → x < (n : Int) → nx x = some (N x) ∧ ∀ y ∈ N x, 0 ≤ y ∧ y < (n : Int)) (f : Nat) (hf : n + 1 ≤ f) :
    ∃ far, impl_steps.g nx f n s = some far ∧ far.length = n ∧ ∀ x, 0 ≤ x ∧ x < (n : Int) → Least N s x (rd far x) := by
  unfold impl_steps.g
  rw [if_pos ⟨⟨h1, hn⟩, hs⟩]
  refine lp_ok nx N s n hn hN f _ _ 0 (Bfs.start N s n hs) ?_ (by simp) (by omega)
  intro x hx
  rw [List.mem_singleton.1 hx, rd_set_same _ _ _ (by simpa using hs)]
  simp
/-- The tables are one. -/
theorem far_one (N : Int → List Int) (s : Int) (n : Nat) (a b : List Int) (ha : a.length = n) (hb : b.length = n) (h1 : ∀ x, 0 ≤ x ∧ x < (n : Int) → Least N s x (rd a x)) (h2 : ∀ x, 0 ≤ x ∧ x < (n : Int) → Least N s x (rd b x)) : a = b := by
  apply List.ext_getElem (by omega)
  intro i h3 h4
  have h5 := Least_one N s (i : Int) _ _ (h1 i (by omega)) (h2 i (by omega))
  rw [rdI a i h3, rdI b i h4] at h5
  exact h5
/-- From some number of rounds on, for each of a few. -/
theorem Ev_few {α : Type} (g : Nat → Int → Option α) (r : Int → α) (n : Nat) (h : ∀ x : Int, 0 ≤ x → x < (n : Int) → Ev (fun k => g k x) (r x)) : ∃ K, ∀ k, K ≤ k → ∀ x : Int, 0 ≤ x → x < (n : Int) → g k x = some (r x) := by
  induction n with
  | zero => exact ⟨0, fun _ _ x h0 h1 => by omega⟩
  | succ n ih =>
    obtain ⟨K, hK⟩ := ih (fun x h0 h1 => h x h0 (by omega))
    obtain ⟨K', hK'⟩ := h (n : Int) (by omega) (by omega)
    refine ⟨max K K', fun k hk x h0 h1 => ?_⟩
    by_cases e : x = (n : Int)
    · subst e; exact hK' k (by omega)
    · exact hK k (by omega) x h0 (by omega)
theorem steps_ev (nx : Nat → Int → Option (List Int)) (N : Int → List Int) (s : Int) (n : Nat) (h1 : 1 ≤ n) (hn : n ≤ 1000) (hs : 0 ≤ s ∧ s < (n : Int)) (hN : ∀ x, 0 ≤ x → x < (n : Int) → Ev (fun k => nx k x) (N x) ∧ ∀ y ∈ N x, 0 ≤ y ∧ y < (n : Int)) :
    ∃ far, Ev (fun k => impl_steps.g (nx k) k n s) far ∧ far.length = n ∧ ∀ x, 0 ≤ x ∧ x < (n : Int) → Least N s x (rd far x) := by
  obtain ⟨K, hK⟩ := Ev_few nx N n (fun x h0 h1 => (hN x h0 h1).1)
  have key := fun k (hk : K ≤ k) (hf : n + 1 ≤ k) => steps_ok (nx k) N s n h1 hn hs (fun x h0 h1 => ⟨hK k hk x h0 h1, (hN x h0 h1).2⟩) k hf
  obtain ⟨far, h2, h3, h4⟩ := key (max K (n + 1)) (by omega) (by omega)
  refine ⟨far, ⟨max K (n + 1), fun k hk => ?_⟩, h3, h4⟩
  obtain ⟨far', h5, h6, h7⟩ := key k (by omega) (by omega)
  show impl_steps.g (nx k) k n s = some far
  rw [h5, far_one N s n far' far h6 h3 h7 h4]
end Go.Proofs.Ytllihaahppelhaa.Pr
namespace Go.Proofs.Ytllihaahppelhaa.Pr
open Go.RowKit Go.Proofs.Ytllihaahppelhaa.P Go.Proofs.YtllihaahppelhaaW.PrintWords Go.Proofs.Ytllihaahppelhaa.E
theorem index (L : List Int) (hL : L.length ≤ 1073741824) (x : Int) (n : Nat) : ∀ i : Nat, i ≤ L.length → L.length - i ≤ n → Ev (fun k => (slices_Index_int_int.l0 k L x (L.length : Int) (i : Int)).bind fun t => some (decide (t ≥ 0))) ((L.drop i).contains x) := by
  induction n with
  | zero =>
    intro i h1 h2
    obtain rfl : i = L.length := by omega
    refine Ev.step (f := fun k => some ((L.drop L.length).contains x)) (fun k => by rw [slices_Index_int_int.l0, if_neg (by omega)]; simp) now
  | succ n ih =>
    intro i h1 h2
    by_cases hi : i < L.length
    · by_cases hx : x = L[i]
      · refine Ev.step (f := fun k => some ((L.drop i).contains x)) (fun k => ?_) now
        rw [slices_Index_int_int.l0, if_pos (by omega), if_pos (by omega), if_pos (by omega), rdI L i hi, if_pos hx, List.drop_eq_getElem_cons hi, List.contains_cons, hx]
        simp
      · refine Ev.step (f := fun k => (slices_Index_int_int.l0 k L x (L.length : Int) ((i + 1 : Nat) : Int)).bind fun t => some (decide (t ≥ 0))) (fun k => ?_) (evEq (ih (i + 1) (by omega) (by omega)) ?_)
        · rw [slices_Index_int_int.l0, if_pos (by omega), if_pos (by omega), if_pos (by omega), rdI L i hi, if_neg (by simpa using hx), w64 _ (by omega)]; rfl
        · rw [List.drop_eq_getElem_cons hi, List.contains_cons]
          simp [hx]
    · obtain rfl : i = L.length := by omega
      refine Ev.step (f := fun k => some ((L.drop L.length).contains x)) (fun k => by rw [slices_Index_int_int.l0, if_neg (by omega)]; simp) now
theorem contains (L : List Int) (hL : L.length ≤ 1073741824) (x : Int) : Ev (fun k => slices_Contains_int_int.f k L x) (L.contains x) := index L hL x _ 0 (by omega) (Nat.le_refl _)
end Go.Proofs.Ytllihaahppelhaa.Pr
namespace Go.Proofs.Ytllihaahppelhaa.Pr
open Go.RowKit Go.Proofs.Ytllihaahppelhaa.P Go.Proofs.YtllihaahppelhaaW.PrintWords Go.Proofs.Ytllihaahppelhaa.E
def kid (l : List Kn) (a : Int) (i : Nat) : Bool := (ps (rdK l i)).contains a
def kids (l : List Kn) (a : Int) : List Int := ((List.range l.length).filter (kid l a)).map fun i : Nat => (i : Int)
theorem kids_len (l : List Kn) (a : Int) : (kids l a).length ≤ l.length := by
  unfold kids
  rw [List.length_map]
  exact Nat.le_trans (List.length_filter_le _ _) (by simp)
theorem kids_mem (l : List Kn) (a p : Int) (h : p ∈ kids l a) : 0 ≤ p ∧ p < (l.length : Int) := by
  unfold kids at h
  obtain ⟨i, h1, rfl⟩ := List.mem_map.1 h
  have := List.mem_range.1 (List.mem_filter.1 h1).1
  omega
def kidsTo (l : List Kn) (a : Int) (n : Nat) : List Int := ((List.range n).filter (kid l a)).map fun i : Nat => (i : Int)
theorem kidsTo_len (l : List Kn) (a : Int) (n : Nat) : (kidsTo l a n).length ≤ n := by
  unfold kidsTo
  rw [List.length_map]
  exact Nat.le_trans (List.length_filter_le _ _) (by simp)
theorem kidsTo_yes (l : List Kn) (a : Int) (n : Nat) (h : kid l a n = true) : kidsTo l a (n + 1) = kidsTo l a n ++ [(n : Int)] := by
  simp [kidsTo, List.range_succ, h]
theorem kidsTo_no (l : List Kn) (a : Int) (n : Nat) (h : kid l a n = false) : kidsTo l a (n + 1) = kidsTo l a n := by
  simp [kidsTo, List.range_succ, h]
theorem faChildren_l (l : List Kn) (hl : l.length ≤ 1073741824) (a : Int) (n : Nat) : ∀ i : Nat, i ≤ l.length → l.length - i ≤ n → Ev (fun k => spec_faChildren.l0 k l a (kidsTo l a i) (l.length : Int) (i : Int)) (kids l a) := by
  have stop : Ev (fun k => spec_faChildren.l0 k l a (kidsTo l a l.length) (l.length : Int) (l.length : Int)) (kids l a) := by
    refine Ev.step (f := fun k => _) (fun k => by rw [spec_faChildren.l0]) (ifn (by omega) (evEq now ?_))
    rfl
  induction n with
  | zero =>
    intro i h1 h2
    obtain rfl : i = l.length := by omega
    exact stop
  | succ n ih =>
    intro i h1 h2
    by_cases hi : i < l.length
    · have hk := kidsTo_len l a i
      refine Ev.step (f := fun k => _) (fun k => by rw [spec_faChildren.l0]) (ifp (by omega) ?_)
      refine Ev.bind (faParents l i hi) (Ev.bind (l1Has a _ (Nat.le_trans (ps_len _) (by decide))) ?_)
      rw [w64 _ (by omega)]
      have e : (ps l[i]).contains a = kid l a i := by unfold kid; rw [show rdK l i = l[i] from rdK_get l i hi]
      rw [e]
      cases h : kid l a i with
      | true =>
        refine ifp rfl (ifp (by omega) ?_)
        rw [← kidsTo_yes l a i h]
        exact ih (i + 1) (by omega) (by omega)
      | false =>
        refine ifn (by simp) ?_
        rw [← kidsTo_no l a i h]
        exact ih (i + 1) (by omega) (by omega)
    · obtain rfl : i = l.length := by omega
      exact stop
theorem faChildren (l : List Kn) (hl : l.length ≤ 1073741824) (a : Int) : Ev (fun k => spec_faChildren.f k l a) (kids l a) := faChildren_l l hl a _ 0 (by omega) (Nat.le_refl _)
theorem children_l (l : List Kn) (hl : l.length ≤ 1073741824) (a : Int) (n : Nat) : ∀ i : Nat, i ≤ l.length → l.length - i ≤ n → Ev (fun k => impl_children.l0 k a (kidsTo l a i) l (l.length : Int) (i : Int)) (kids l a) := by
  have stop : Ev (fun k => impl_children.l0 k a (kidsTo l a l.length) l (l.length : Int) (l.length : Int)) (kids l a) := by
    refine Ev.step (f := fun k => _) (fun k => by rw [impl_children.l0]) (ifn (by omega) (evEq now ?_))
    rfl
  induction n with
  | zero =>
    intro i h1 h2
    obtain rfl : i = l.length := by omega
    exact stop
  | succ n ih =>
    intro i h1 h2
    by_cases hi : i < l.length
    · have hk := kidsTo_len l a i
      refine Ev.step (f := fun k => _) (fun k => by rw [impl_children.l0]) (ifp (by omega) (ifp (by omega) (ifp (by omega) ?_)))
      rw [rdK_get l i hi]
      refine call (parents_f l[i]) (Ev.bind (contains _ (Nat.le_trans (ps_len _) (by decide)) a) ?_)
      rw [w64 _ (by omega)]
      have e : (ps l[i]).contains a = kid l a i := by unfold kid; rw [show rdK l i = l[i] from rdK_get l i hi]
      rw [e]
      cases h : kid l a i with
      | true =>
        refine ifp rfl (ifp (by omega) ?_)
        rw [← kidsTo_yes l a i h]
        exact ih (i + 1) (by omega) (by omega)
      | false =>
        refine ifn (by simp) ?_
        rw [← kidsTo_no l a i h]
        exact ih (i + 1) (by omega) (by omega)
    · obtain rfl : i = l.length := by omega
      exact stop
theorem children (l : List Kn) (hl : l.length ≤ 1073741824) (a : Int) : Ev (fun k => impl_children.f k l a) (kids l a) := children_l l hl a _ 0 (by omega) (Nat.le_refl _)
end Go.Proofs.Ytllihaahppelhaa.Pr
namespace Go.Proofs.Ytllihaahppelhaa.Pr
open Go.RowKit Go.Proofs.Ytllihaahppelhaa.P Go.Proofs.YtllihaahppelhaaW.PrintWords Go.Proofs.Ytllihaahppelhaa.E
/-- Parents and children. -/
def nbr (l : List Kn) (x : Int) : List Int := pp l x ++ kids l x
theorem nbr_len (l : List Kn) (hf : Fam l) (x : Int) : (nbr l x).length ≤ 16 := by
  have h1 := ps_len (rdK l x)
  have h2 := kids_len l x
  have h3 := hf.1.2
  unfold nbr
  rw [List.length_append]
  show (ps (rdK l x)).length + _ ≤ _
  omega
theorem nbr_in (l : List Kn) (hf : Fam l) (x y : Int) (hx : 0 ≤ x ∧ x < (l.length : Int)) (h : y ∈ nbr l x) : 0 ≤ y ∧ y < (l.length : Int) := by
  rcases List.mem_append.1 h with h | h
  · have := Fam_pp l hf x y hx h; omega
  · exact kids_mem l x y h
/-- Those that are new are seen, and are next. -/
def ad : List Int → List Int × List Int → List Int × List Int
  | [], s => s
  | y :: ys, s => if s.1.contains y = true then ad ys s else ad ys (s.1 ++ [y], s.2 ++ [y])
def adAll (N : Int → List Int) : List Int → List Int × List Int → List Int × List Int
  | [], s => s
  | u :: us, s => adAll N us (ad (N u) s)
theorem ad_prop (ys : List Int) : ∀ s : List Int × List Int, ∃ new, (ad ys s).1 = s.1 ++ new ∧ (ad ys s).2 = s.2 ++ new ∧ new.Nodup ∧ (∀ y ∈ new, y ∈ ys ∧ y ∉ s.1) ∧ ∀ y ∈ ys, y ∈ (ad ys s).1 := by
  induction ys with
  | nil => intro s; exact ⟨[], by simp [ad], by simp [ad], by simp, (fun y hy => by cases hy), (fun y hy => by cases hy)⟩
  | cons y ys ih =>
    intro s
    rw [ad]
    by_cases h : s.1.contains y = true
    · rw [if_pos h]
      obtain ⟨new, h1, h2, h3, h4, h5⟩ := ih s
      refine ⟨new, h1, h2, h3, fun z hz => ⟨List.mem_cons_of_mem _ (h4 z hz).1, (h4 z hz).2⟩, fun z hz => ?_⟩
      rcases List.mem_cons.1 hz with rfl | hz
      · rw [h1]; exact List.mem_append_left _ (List.contains_iff_mem.1 h)
      · exact h5 z hz
    · rw [if_neg h]
      have hy : y ∉ s.1 := fun hm => h (List.contains_iff_mem.2 hm)
      obtain ⟨new, h1, h2, h3, h4, h5⟩ := ih (s.1 ++ [y], s.2 ++ [y])
      refine ⟨y :: new, by rw [h1]; simp, by rw [h2]; simp, List.nodup_cons.2 ⟨fun hm => (h4 y hm).2 (by simp), h3⟩, fun z hz => ?_, fun z hz => ?_⟩
      · rcases List.mem_cons.1 hz with rfl | hz
        · exact ⟨List.mem_cons_self .., hy⟩
        · obtain ⟨h6, h7⟩ := h4 z hz
          exact ⟨List.mem_cons_of_mem _ h6, fun hm => h7 (List.mem_append_left _ hm)⟩
      · rcases List.mem_cons.1 hz with rfl | hz
        · rw [h1]; simp
        · exact h5 z hz
theorem adAll_prop (N : Int → List Int) (us : List Int) : ∀ s : List Int × List Int, ∃ new, (adAll N us s).1 = s.1 ++ new ∧ (adAll N us s).2 = s.2 ++ new ∧ new.Nodup ∧ (∀ y ∈ new, (∃ u ∈ us, y ∈ N u) ∧ y ∉ s.1) ∧ ∀ u ∈ us, ∀ y ∈ N u, y ∈ (adAll N us s).1 := by
  induction us with
  | nil => intro s; exact ⟨[], by simp [adAll], by simp [adAll], by simp, (fun y hy => by cases hy), (fun u hu => by cases hu)⟩
  | cons u us ih =>
    intro s
    rw [adAll]
    obtain ⟨n1, a1, a2, a3, a4, a5⟩ := ad_prop (N u) s
    obtain ⟨n2, b1, b2, b3, b4, b5⟩ := ih (ad (N u) s)
    refine ⟨n1 ++ n2, by rw [b1, a1, List.append_assoc], by rw [b2, a2, List.append_assoc], List.nodup_append.2 ⟨a3, b3, fun x hx y hy e => ?_⟩, fun y hy => ?_, fun v hv y hy => ?_⟩
    · subst e
      exact (b4 x hy).2 (by rw [a1]; exact List.mem_append_right _ hx)
    · rcases List.mem_append.1 hy with hy | hy
      · exact ⟨⟨u, List.mem_cons_self .., (a4 y hy).1⟩, (a4 y hy).2⟩
      · obtain ⟨⟨v, hv, h6⟩, h7⟩ := b4 y hy
        exact ⟨⟨v, List.mem_cons_of_mem _ hv, h6⟩, fun hm => h7 (by rw [a1]; exact List.mem_append_left _ hm)⟩
    · rcases List.mem_cons.1 hv with rfl | hv
      · rw [b1]; exact List.mem_append_left _ (a5 y hy)
      · exact b5 v hv y hy
theorem ad_len (ys : List Int) (s : List Int × List Int) : (ad ys s).1.length ≤ s.1.length + ys.length ∧ (ad ys s).2.length ≤ s.2.length + ys.length := by
  induction ys generalizing s with
  | nil => simp [ad]
  | cons y ys ih =>
    rw [ad]
    split
    · have := ih s; simp only [List.length_cons]; omega
    · have := ih (s.1 ++ [y], s.2 ++ [y])
      simp only [List.length_cons, List.length_append, List.length_nil] at this ⊢
      omega
theorem st_l2 (l : List Kn) (b : Int) (stp : Int) (now : List Int) (i : Nat) (r : Int × Bool) (L : List Int) (hL : L.length ≤ 1000) (n : Nat) : ∀ (j : Nat) (s : List Int × List Int), j ≤ L.length → L.length - j ≤ n → s.1.length ≤ 100000 + j → s.2.length ≤ 100000 + j →
    Ev (fun k => spec_StepsApart.l1 k l b (ad (L.drop j) s).1 stp (ad (L.drop j) s).2 now (now.length : Int) (wrap64 ((i : Int) + 1))) r → Ev (fun k => spec_StepsApart.l2 k l b s.1 stp s.2 now (now.length : Int) (i : Int) L (L.length : Int) (j : Int)) r := by
  have stop : ∀ s : List Int × List Int, Ev (fun k => spec_StepsApart.l1 k l b (ad (L.drop L.length) s).1 stp (ad (L.drop L.length) s).2 now (now.length : Int) (wrap64 ((i : Int) + 1))) r → Ev (fun k => spec_StepsApart.l2 k l b s.1 stp s.2 now (now.length : Int) (i : Int) L (L.length : Int) (L.length : Int)) r := by
    intro s hr
    rw [List.drop_length] at hr
    refine Ev.step (f := fun k => _) (fun k => by rw [spec_StepsApart.l2]) (ifn (by omega) ?_)
    exact hr
  induction n with
  | zero =>
    intro j s h1 h2 _ _ hr
    obtain rfl : j = L.length := by omega
    exact stop s hr
  | succ n ih =>
    intro j s h1 h2 h3 h4 hr
    by_cases hj : j < L.length
    · refine Ev.step (f := fun k => _) (fun k => by rw [spec_StepsApart.l2]) (ifp (by omega) (ifp (by omega) (ifp (by omega) ?_)))
      rw [rdI L j hj, w64 ((j : Int) + 1) (by omega)]
      refine Ev.bind (l1Has L[j] s.1 (by omega)) ?_
      rw [List.drop_eq_getElem_cons hj, ad] at hr
      by_cases hc : s.1.contains L[j] = true
      · rw [if_pos hc] at hr
        exact ifp hc (ih (j + 1) s (by omega) (by omega) (by omega) (by omega) hr)
      · rw [if_neg hc] at hr
        exact ifn hc (ifp (by omega) (ifp (by omega) (ih (j + 1) (s.1 ++ [L[j]], s.2 ++ [L[j]]) (by omega) (by omega) (by simp; omega) (by simp; omega) hr)))
    · obtain rfl : j = L.length := by omega
      exact stop s hr
theorem st_l1 (l : List Kn) (hf : Fam l) (b : Int) (stp : Int) (now : List Int) (hnow : now.length ≤ 1000) (hr0 : ∀ u ∈ now, 0 ≤ u ∧ u < (l.length : Int)) (r : Int × Bool) (n : Nat) : ∀ (i : Nat) (s : List Int × List Int), i ≤ now.length → now.length - i ≤ n → s.1.length ≤ 1000 + 16 * i → s.2.length ≤ 16 * i →
    Ev (fun k => spec_StepsApart.l0 k l b (adAll (nbr l) (now.drop i) s).2 (adAll (nbr l) (now.drop i) s).1 (wrap64 (stp + 1))) r → Ev (fun k => spec_StepsApart.l1 k l b s.1 stp s.2 now (now.length : Int) (i : Int)) r := by
  have stop : ∀ s : List Int × List Int, Ev (fun k => spec_StepsApart.l0 k l b (adAll (nbr l) (now.drop now.length) s).2 (adAll (nbr l) (now.drop now.length) s).1 (wrap64 (stp + 1))) r → Ev (fun k => spec_StepsApart.l1 k l b s.1 stp s.2 now (now.length : Int) (now.length : Int)) r := by
    intro s hr
    rw [List.drop_length] at hr
    refine Ev.step (f := fun k => _) (fun k => by rw [spec_StepsApart.l1]) (ifn (by omega) ?_)
    exact hr
  induction n with
  | zero =>
    intro i s h1 h2 _ _ hr
    obtain rfl : i = now.length := by omega
    exact stop s hr
  | succ n ih =>
    intro i s h1 h2 h3 h4 hr
    by_cases hi : i < now.length
    · have hu := hr0 now[i] (List.getElem_mem hi)
      have hnl := nbr_len l hf now[i]
      have hpl := ps_len (rdK l now[i])
      have hkl := kids_len l now[i]
      have h14 := hf.1.2
      refine Ev.step (f := fun k => _) (fun k => by rw [spec_StepsApart.l1]) (ifp (by omega) (ifp (by omega) (ifp (by omega) ?_)))
      rw [rdI now i hi]
      refine Ev.bind (faParentsI l now[i] hu) (Ev.bind (faChildren l (by omega) now[i]) (ifp (by show (ps (rdK l now[i])).length + _ < _; omega) (call (b := nbr l now[i]) rfl ?_)))
      have hal := ad_len (nbr l now[i]) s
      refine st_l2 l b stp now i r (nbr l now[i]) (by omega) _ 0 s (by omega) (Nat.le_refl _) (by omega) (by omega) ?_
      rw [List.drop_zero, w64 _ (by omega)]
      rw [List.drop_eq_getElem_cons hi, adAll] at hr
      exact ih (i + 1) (ad (nbr l now[i]) s) (by omega) (by omega) (by omega) (by omega) hr
    · obtain rfl : i = now.length := by omega
      exact stop s hr
/-- Level t. -/
structure Lv (N : Int → List Int) (a : Int) (n t : Nat) (now seen : List Int) : Prop where
  sp : ∀ x, x ∈ seen ↔ ∃ m, m ≤ t ∧ Wk N a x m
  np : ∀ x, x ∈ now ↔ Wk N a x t ∧ ∀ m, m < t → ¬ Wk N a x m
  sd : seen.Nodup
  nd : now.Nodup
  rg : ∀ x ∈ seen, 0 ≤ x ∧ x < (n : Int)
theorem Lv.now_in {N : Int → List Int} {a : Int} {n t : Nat} {now seen : List Int} (h : Lv N a n t now seen) (x : Int) (hx : x ∈ now) : x ∈ seen := (h.sp x).2 ⟨t, Nat.le_refl _, ((h.np x).1 hx).1⟩
theorem Lv.next {N : Int → List Int} {a : Int} {n t : Nat} {now seen : List Int} (h : Lv N a n t now seen) (hN : ∀ x, 0 ≤ x ∧ x < (n : Int) → ∀ y ∈ N x, 0 ≤ y ∧ y < (n : Int)) :
    Lv N a n (t + 1) (adAll N now (seen, [])).2 (adAll N now (seen, [])).1 ∧ (adAll N now (seen, [])).1.length = seen.length + (adAll N now (seen, [])).2.length := by
  obtain ⟨new, e1, e2, h3, h4, h5⟩ := adAll_prop N now (seen, [])
  rw [List.nil_append] at e2
  have key : ∀ x m, Wk N a x m → m ≤ t + 1 → x ∈ (adAll N now (seen, [])).1 := by
    intro x m hw hm
    by_cases hmt : m ≤ t
    · rw [e1]; exact List.mem_append_left _ ((h.sp x).2 ⟨m, hmt, hw⟩)
    · obtain rfl : m = t + 1 := by omega
      cases hw with
      | on hu hk =>
        rename_i u
        by_cases hs : ∃ m', m' < t ∧ Wk N a u m'
        · obtain ⟨m', hm', hw'⟩ := hs
          rw [e1]; exact List.mem_append_left _ ((h.sp x).2 ⟨m' + 1, by omega, .on hw' hk⟩)
        · exact h5 u ((h.np u).2 ⟨hu, fun m' hm' hw' => hs ⟨m', hm', hw'⟩⟩) x hk
  have new1 : ∀ x ∈ new, Wk N a x (t + 1) ∧ x ∉ seen := by
    intro x hx
    obtain ⟨⟨u, hu, hk⟩, hs⟩ := h4 x hx
    exact ⟨.on ((h.np u).1 hu).1 hk, hs⟩
  refine ⟨⟨fun x => ⟨fun hx => ?_, fun ⟨m, hm, hw⟩ => key x m hw hm⟩, fun x => ⟨fun hx => ?_, fun ⟨hw, hno⟩ => ?_⟩, ?_, ?_, fun x hx => ?_⟩, ?_⟩
  · rw [e1] at hx
    rcases List.mem_append.1 hx with hx | hx
    · obtain ⟨m, hm, hw⟩ := (h.sp x).1 hx
      exact ⟨m, by omega, hw⟩
    · exact ⟨t + 1, Nat.le_refl _, (new1 x hx).1⟩
  · rw [e2] at hx
    obtain ⟨hw, hs⟩ := new1 x hx
    exact ⟨hw, fun m hm hw' => hs ((h.sp x).2 ⟨m, by omega, hw'⟩)⟩
  · have h6 := key x (t + 1) hw (Nat.le_refl _)
    rw [e1] at h6
    rw [e2]
    rcases List.mem_append.1 h6 with h6 | h6
    · obtain ⟨m, hm, hw'⟩ := (h.sp x).1 h6
      exact absurd hw' (hno m (by omega))
    · exact h6
  · rw [e1]
    exact List.nodup_append.2 ⟨h.sd, h3, fun x hx y hy e => (new1 y hy).2 (e ▸ hx)⟩
  · rw [e2]; exact h3
  · rw [e1] at hx
    rcases List.mem_append.1 hx with hx | hx
    · exact h.rg x hx
    · obtain ⟨⟨u, hu, hk⟩, _⟩ := h4 x hx
      exact hN u (h.rg u (h.now_in u hu)) x hk
  · rw [e1, e2, List.length_append]
theorem Lv.gap {N : Int → List Int} {a : Int} {n t : Nat} {seen : List Int} (h : Lv N a n t [] seen) (x : Int) (m : Nat) (hw : Wk N a x m) : ∃ m', m' < t ∧ Wk N a x m' := by
  have no : ∀ x, ¬ (Wk N a x t ∧ ∀ m, m < t → ¬ Wk N a x m) := fun x hx => by have := (h.np x).2 hx; cases this
  induction hw with
  | now =>
    by_cases ht : 0 < t
    · exact ⟨0, ht, .now⟩
    · obtain rfl : t = 0 := by omega
      exact absurd ⟨.now, fun m hm => absurd hm (Nat.not_lt_zero _)⟩ (no a)
  | on hw hk ih =>
    obtain ⟨m', hm', hw'⟩ := ih
    by_cases he : m' + 1 < t
    · exact ⟨m' + 1, he, .on hw' hk⟩
    · obtain rfl : t = m' + 1 := by omega
      rename_i v _
      by_cases hs : ∃ m2, m2 < m' + 1 ∧ Wk N a v m2
      · exact hs
      · exact absurd ⟨.on hw' hk, fun m2 h2 h3 => hs ⟨m2, h2, h3⟩⟩ (no v)
/-- What is told: how many steps there are at least, or that there are none. -/
def Told (N : Int → List Int) (a b : Int) (v : Int × Bool) : Prop := (v = (0, false) ∧ ∀ m, ¬ Wk N a b m) ∨ ∃ m : Nat, v = ((m : Int), true) ∧ Wk N a b m ∧ ∀ j, Wk N a b j → m ≤ j
theorem st_l0 (l : List Kn) (hf : Fam l) (a b : Int) (d : Nat) : ∀ (t : Nat) (now seen : List Int), Lv (nbr l) a l.length t now seen → (now ≠ [] → t + 1 ≤ seen.length) → (∀ m, m < t → ¬ Wk (nbr l) a b m) → l.length - t ≤ d → t ≤ l.length + 1 →
    ∃ v, Ev (fun k => spec_StepsApart.l0 k l b now seen (t : Int)) v ∧ Told (nbr l) a b v := by
  have h14 := hf.1.2
  have stop : ∀ (t : Nat) (seen : List Int), Lv (nbr l) a l.length t [] seen → (∀ m, m < t → ¬ Wk (nbr l) a b m) → ∃ v, Ev (fun k => spec_StepsApart.l0 k l b [] seen (t : Int)) v ∧ Told (nbr l) a b v := by
    intro t seen h hno
    refine ⟨(0, false), Ev.step (f := fun k => _) (fun k => by rw [spec_StepsApart.l0]) (ifn (by simp) now), .inl ⟨rfl, fun m hm => ?_⟩⟩
    obtain ⟨m', h1, h2⟩ := h.gap b m hm
    exact hno m' h1 h2
  induction d with
  | zero =>
    intro t now seen h hlen hno hd _
    have h1 := few l.length seen h.sd h.rg
    by_cases hn : now = []
    · subst hn; exact stop t seen h hno
    · have := hlen hn; omega
  | succ d ih =>
    intro t now_ seen h hlen hno hd ht
    have h1 := few l.length seen h.sd h.rg
    have hnr : ∀ x ∈ now_, 0 ≤ x ∧ x < (l.length : Int) := fun x hx => h.rg x (h.now_in x hx)
    have h2 := few l.length now_ h.nd hnr
    by_cases hn : now_ = []
    · subst hn; exact stop t seen h hno
    · have hpos : (now_.length : Int) > 0 := by
        have : now_.length ≠ 0 := fun e => hn (List.eq_nil_of_length_eq_zero e)
        omega
      have hts := hlen hn
      by_cases hb : b ∈ now_
      · have hc : now_.contains b = true := List.contains_iff_mem.2 hb
        have hw := (h.np b).1 hb
        have hh := l1Has b now_ (by omega)
        refine ⟨((t : Int), true), Ev.step (f := fun k => _) (fun k => by rw [spec_StepsApart.l0]) (ifp hpos (Ev.bind hh (ifp hc now))), .inr ⟨t, rfl, hw.1, fun j hj => ?_⟩⟩
        by_cases hjt : j < t
        · exact absurd hj (hw.2 j hjt)
        · omega
      · have hc : ¬ now_.contains b = true := fun hm => hb (List.contains_iff_mem.1 hm)
        have hh := l1Has b now_ (by omega)
        obtain ⟨h3, h4⟩ := h.next (fun x hx y hy => nbr_in l hf x y hx hy)
        have hno2 : ∀ m, m < t + 1 → ¬ Wk (nbr l) a b m := by
          intro m hm hw
          by_cases hmt : m < t
          · exact hno m hmt hw
          · obtain rfl : m = t := by omega
            exact hb ((h.np b).2 ⟨hw, hno⟩)
        obtain ⟨v, e, hv⟩ := ih (t + 1) _ _ h3 (fun hne => by
          have : (adAll (nbr l) now_ (seen, [])).2.length ≠ 0 := fun e => hne (List.eq_nil_of_length_eq_zero e)
          omega) hno2 (by omega) (by omega)
        refine ⟨v, Ev.step (f := fun k => _) (fun k => by rw [spec_StepsApart.l0]) (ifp hpos (Ev.bind hh (ifn hc ?_))), hv⟩
        refine st_l1 l hf b (t : Int) now_ (by omega) hnr v _ 0 (seen, []) (by omega) (Nat.le_refl _) (by simp; omega) (by simp) ?_
        rw [List.drop_zero, w64 _ (by omega)]
        exact e
theorem spec_steps (l : List Kn) (hf : Fam l) (a b : Int) (ha : 0 ≤ a ∧ a < (l.length : Int)) : ∃ v, Ev (fun k => spec_StepsApart.l0 k l b [a] [a] 0) v ∧ Told (nbr l) a b v := by
  have w0 : ∀ x, Wk (nbr l) a x 0 ↔ x = a := fun x => ⟨fun h => by cases h; rfl, fun e => by subst e; exact .now⟩
  refine st_l0 l hf a b _ 0 [a] [a] ⟨fun x => ?_, fun x => ?_, by simp, by simp, fun x hx => by rw [List.mem_singleton.1 hx]; exact ha⟩ (fun _ => by simp) (fun m hm => absurd hm (Nat.not_lt_zero _)) (Nat.le_refl _) (by omega)
  · rw [List.mem_singleton]
    constructor
    · rintro rfl; exact ⟨0, Nat.le_refl _, .now⟩
    · rintro ⟨m, hm, hw⟩
      obtain rfl : m = 0 := by omega
      exact (w0 x).1 hw
  · rw [List.mem_singleton]
    constructor
    · rintro rfl; exact ⟨.now, fun m hm => absurd hm (Nat.not_lt_zero _)⟩
    · rintro ⟨hw, _⟩; exact (w0 x).1 hw
theorem Told_one (N : Int → List Int) (a b : Int) (v w : Int × Bool) (h : Told N a b v) (k : Told N a b w) : v = w := by
  rcases h with ⟨h1, h2⟩ | ⟨m, h1, h2, h3⟩
  · rcases k with ⟨k1, _⟩ | ⟨m', _, k2, _⟩
    · rw [h1, k1]
    · exact absurd k2 (h2 _)
  · rcases k with ⟨_, k2⟩ | ⟨m', k1, k2, k3⟩
    · exact absurd h2 (k2 _)
    · have := h3 _ k2
      have := k3 _ h2
      obtain rfl : m = m' := by omega
      rw [h1, k1]
end Go.Proofs.Ytllihaahppelhaa.Pr
namespace Go.Proofs.Ytllihaahppelhaa.Pr
open Go.RowKit Go.Proofs.Ytllihaahppelhaa.P Go.Proofs.YtllihaahppelhaaW.PrintWords Go.Proofs.Ytllihaahppelhaa.E
theorem faTwo (l : List Kn) (hl : l.length ≤ 1073741824) (a b : Int) : Ev (fun k => spec_faTwo.f k l a b) (good l && (inR l a && inR l b)) := by
  unfold spec_faTwo.f
  refine Ev.bind (faWho l hl a) ?_
  rw [← Bool.and_assoc]
  cases good l && inR l a with
  | true =>
    refine ifp rfl (call (l1In _ _ _) (evEq now ?_))
    rw [w64 _ (by omega), Bool.true_and]
    unfold inR
    rw [decide_eq_decide]; omega
  | false => exact ifn (by simp) now
end Go.Proofs.Ytllihaahppelhaa.Pr
namespace Go.Proofs.Ytllihaahppelhaa.Pr
open Go.RowKit Go.Proofs.Ytllihaahppelhaa.P Go.Proofs.YtllihaahppelhaaW.PrintWords Go.Proofs.Ytllihaahppelhaa.E
theorem allIn1 (l : List Kn) (a : Int) : (good l && ([a] : List Int).all (inR l)) = (good l && inR l a) := by simp
theorem allIn2 (l : List Kn) (a b : Int) : (good l && ([a, b] : List Int).all (inR l)) = (good l && (inR l a && inR l b)) := by simp
theorem one_iff (l : List Kn) (a : Int) : (good l && inR l a) = true ↔ Fam l ∧ 0 ≤ a ∧ a < (l.length : Int) := by rw [Bool.and_eq_true, good_iff, inR_iff]
theorem two_iff (l : List Kn) (a b : Int) : (good l && (inR l a && inR l b)) = true ↔ Fam l ∧ (0 ≤ a ∧ a < (l.length : Int)) ∧ 0 ≤ b ∧ b < (l.length : Int) := by rw [Bool.and_eq_true, Bool.and_eq_true, good_iff, inR_iff, inR_iff]
end Go.Proofs.Ytllihaahppelhaa.Pr
namespace Go.Proofs.Ytllihaahppelhaa.Pr
open Go.RowKit Go.Proofs.Ytllihaahppelhaa.P Go.Proofs.YtllihaahppelhaaW.PrintWords Go.Proofs.Ytllihaahppelhaa.E
theorem St_nx (l : List Kn) (hf : Fam l) (x : Int) (h0 : 0 ≤ x) (h1 : x < (l.length : Int)) : Ev (fun k => impl_StepsApart.nx k l x) (nbr l x) := by
  have hkl := kids_len l x
  have h14 := hf.1.2
  unfold impl_StepsApart.nx
  exact ifp ⟨h0, h1⟩ (Ev.bind (children l (by omega) x) (ifp (by omega) now))
theorem St_impl (l : List Kn) (hf : Fam l) (a b : Int) (ha : 0 ≤ a ∧ a < (l.length : Int)) (hb : 0 ≤ b ∧ b < (l.length : Int)) : ∃ v, Ev (fun k => (impl_steps.g (impl_StepsApart.nx k l) k l.length a).bind fun far => if 0 ≤ b ∧ b < (far.length : Int) then (if rd far b < 0 then some (0, false) else some (rd far b, true)) else none) v ∧ Told (nbr l) a b v := by
  have h14 := hf.1.2
  obtain ⟨far, e, hlen, h⟩ := steps_ev (fun k => impl_StepsApart.nx k l) (nbr l) a l.length (by omega) (by omega) ha (fun x h0 h1 => ⟨St_nx l hf x h0 h1, fun y hy => nbr_in l hf x y ⟨h0, h1⟩ hy⟩)
  rcases h b hb with ⟨h1, h2⟩ | ⟨m, h1, h2⟩
  · exact ⟨(0, false), Ev.bind e (ifp (by omega) (ifp (by omega) now)), .inl ⟨rfl, h2⟩⟩
  · refine ⟨((m : Int), true), Ev.bind e (ifp (by omega) (ifn (by omega) ?_)), .inr ⟨m, rfl, h2⟩⟩
    rw [h1]; exact now
theorem St_one (l : List Kn) (hl : l.length ≤ 1073741824) (a b : Int) : ∃ v, Ev (fun k => spec_StepsApart.f k l a b) v ∧ Ev (fun k => impl_StepsApart.f k l a b) v := by
  have hk := hasKin l hl [a, b]
  rw [allIn2] at hk
  unfold spec_StepsApart.f impl_StepsApart.f
  by_cases h : (good l && (inR l a && inR l b)) = true
  · obtain ⟨hf, ha, hb⟩ := (two_iff l a b).1 h
    obtain ⟨v, e1, t1⟩ := spec_steps l hf a b ha
    obtain ⟨v', e2, t2⟩ := St_impl l hf a b ha hb
    obtain rfl := Told_one _ a b _ _ t1 t2
    exact ⟨v, Ev.bind (faTwo l hl a b) (ifp h e1), Ev.bind hk (ifp h e2)⟩
  · exact ⟨(0, false), Ev.bind (faTwo l hl a b) (ifn h now), Ev.bind hk (ifn h now)⟩
end Go.Proofs.Ytllihaahppelhaa.Pr
namespace Go.Proofs.Ytllihaahppelhaa.Pure
open Go.RowKit Go.Proofs.Ytllihaahppelhaa.P Go.Proofs.Ytllihaahppelhaa.Pr Go.Proofs.Ytllihaahppelhaa.E Go.Proofs.YtllihaahppelhaaW.PrintWords
theorem FnExactStepsApart : laws_FnExactStepsApart.Pure := by
  intro l a b hl hb _ _ _
  refine Ev.rounds ?_
  unfold laws_FnExactStepsApart.f
  refine call (szKinS l (by omega)) ?_
  by_cases hs : l.length ≤ 1048576
  · have hl' : l.length ≤ 1099511627776 := by omega
    have hcl : (conv l).length ≤ 1048576 := by rw [conv_length]; exact hs
    have hc' : (conv l).length ≤ 1099511627776 := by omega
    rw [if_pos hs]
    refine ifn (by omega) ?_
    obtain ⟨v, e1, e2⟩ := St_one (conv l) (by omega) a b
    refine Ev.bind (toKinS l hl') (Ev.bind e1 (Ev.bind (toKinS l hl') (Ev.bind e2 ?_)))
    refine ifp rfl ?_
    refine Ev.step (f := fun k => _) (fun k => by rw [laws_FnExactStepsApart.j0]) (ifn (by simp) ?_)
    exact Ev.bind (toKinS l hl') (Ev.bind (eqKinS (conv l) hc') (ifp rfl now))
  · rw [if_neg hs]
    exact ifp (by omega) now
end Go.Proofs.Ytllihaahppelhaa.Pure
