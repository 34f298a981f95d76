/- The program's RelationOf tells what the reference's tells, for every family and any two, and leaves what it is handed. No condition. -/
import Derived.Test.YtllihaahppelhaaPx24
import Derived.Test.YtllihaahppelhaaPx3
import Derived.Test.YtllihaahppelhaaPxHimplqRelationOf
import Derived.Test.YtllihaahppelhaaPxHimplqisGrand
import Derived.Test.YtllihaahppelhaaPx17
import Derived.Test.YtllihaahppelhaaPx2
import Derived.Test.YtllihaahppelhaaPxHimplqisAunt
import Derived.Test.YtllihaahppelhaaPxHimplqareCousins
import Derived.Test.YtllihaahppelhaaPxHimplqareBetween
import Derived.Test.YtllihaahppelhaaPx12
import Derived.Test.YtllihaahppelhaaPx1
import Derived.Test.YtllihaahppelhaaPx8
import Derived.Test.YtllihaahppelhaaPxHimplqKinqparents
import Derived.Test.YtllihaahppelhaaPx0
import Derived.Test.YtllihaahppelhaaEv
import Derived.Test.YtllihaahppelhaaPx15
import Derived.Test.YtllihaahppelhaaPxHimplqcommon
import Derived.Lib.SlicesCompact
import Derived.Test.YtllihaahppelhaaPxHimplqdistinct
namespace Go.Proofs.Ytllihaahppelhaa.Pr
open Go.RowKit Go.Proofs.Ytllihaahppelhaa.P Go.Proofs.YtllihaahppelhaaW.PrintWords Go.Proofs.Ytllihaahppelhaa.E
abbrev Kn := S49
abbrev LK := S51
abbrev rdK (l : List Kn) (i : Int) : Kn := rd_T49 l i
theorem rdK_get (l : List Kn) (i : Nat) (h : i < l.length) : rd_T49 l (i : Int) = l[i] := by simp [rd_T49, List.getD_eq_getElem?_getD, List.getElem?_eq_getElem h]
theorem rdL_get (l : List LK) (i : Nat) (h : i < l.length) : rd_T51 l (i : Int) = l[i] := by simp [rd_T51, List.getD_eq_getElem?_getD, List.getElem?_eq_getElem h]
def conv1 (x : LK) : Kn := ⟨x.f0, x.f1, x.f2⟩
def conv (l : List LK) : List Kn := l.map conv1
theorem conv_length (l : List LK) : (conv l).length = l.length := by simp [conv]
theorem szKinS (l : List LK) (h : l.length ≤ 140737488351232) : laws_szKinS.f l 1048576 = some (if l.length ≤ 1048576 then 1048576 - (l.length : Int) else -1) := by
  unfold laws_szKinS.f
  rw [w64 _ (by omega)]
  by_cases h1 : l.length ≤ 1048576
  · rw [if_neg (by omega), if_pos h1]
  · rw [if_pos (by omega), if_neg h1]
theorem toKinS_l (l : List LK) (hl : l.length ≤ 1099511627776) (n : Nat) : ∀ i : Nat, i ≤ l.length → l.length - i ≤ n →
    Ev (fun k => laws_toKinS.l0 k l (conv (l.take i) ++ List.replicate (l.length - i) z49) (i : Int)) (conv l) := by
  have stop : Ev (fun k => laws_toKinS.l0 k l (conv (l.take l.length) ++ List.replicate (l.length - l.length) z49) (l.length : Int)) (conv l) := by
    refine Ev.step (f := fun k => _) (fun k => by rw [laws_toKinS.l0]) (ifn (by omega) (evEq now ?_))
    simp
  induction n with
  | zero =>
    intro i h1 h2
    obtain rfl : i = l.length := by omega
    exact stop
  | succ n ih =>
    intro i h1 h2
    by_cases hi : i < l.length
    · have hlen : (conv (l.take i) ++ List.replicate (l.length - i) z49).length = l.length := by simp [conv]; omega
      have hset : (conv (l.take i) ++ List.replicate (l.length - i) z49).set i (conv1 l[i]) = conv (l.take (i + 1)) ++ List.replicate (l.length - (i + 1)) z49 := by
        have hc : (conv (l.take i)).length = i := by simp [conv]; omega
        rw [List.set_append_right _ _ (by omega), hc, Nat.sub_self, show l.length - i = (l.length - (i + 1)) + 1 by omega, List.replicate_succ, List.set_cons_zero, List.take_succ_eq_append_getElem hi]
        simp only [conv, List.map_append, List.map_cons, List.map_nil, List.append_assoc, List.cons_append, List.nil_append]
      refine Ev.step (f := fun k => _) (fun k => by rw [laws_toKinS.l0]) (ifp (by omega) (ifp (by omega) ?_))
      refine call (b := (l[i].f0, l[i].f1, l[i].f2)) (by rw [rdL_get l i hi]; rfl) ?_
      refine ifp (by omega) ?_
      rw [w64 _ (by omega), Int.toNat_natCast]
      have := ih (i + 1) (by omega) (by omega)
      rw [← hset] at this
      exact this
    · obtain rfl : i = l.length := by omega
      exact stop
theorem toKinS (l : List LK) (hl : l.length ≤ 1099511627776) : Ev (fun k => laws_toKinS.f k l) (conv l) := by
  unfold laws_toKinS.f
  refine ifp (by omega) (ifp (by omega) ?_)
  have := toKinS_l l hl _ 0 (by omega) (Nat.le_refl _)
  simpa [conv] using this
theorem eqKin (a b c : Int) : laws_eqKin.f a b c a b c = some true := by simp [laws_eqKin.f]
theorem eqKinS_l (l : List Kn) (hl : l.length ≤ 1099511627776) (n : Nat) : ∀ i : Nat, i ≤ l.length → l.length - i ≤ n → Ev (fun k => laws_eqKinS.l0 k l l (i : Int)) true := by
  induction n with
  | zero =>
    intro i h1 h2
    exact Ev.step (f := fun k => _) (fun k => by rw [laws_eqKinS.l0]) (ifn (by omega) now)
  | succ n ih =>
    intro i h1 h2
    by_cases hi : i < l.length
    · refine Ev.step (f := fun k => _) (fun k => by rw [laws_eqKinS.l0]) (ifp (by omega) (ifp (by omega) (ifp (by omega) (call (eqKin _ _ _) (ifp rfl ?_)))))
      rw [w64 _ (by omega)]
      exact ih (i + 1) (by omega) (by omega)
    · exact Ev.step (f := fun k => _) (fun k => by rw [laws_eqKinS.l0]) (ifn (by omega) now)
theorem eqKinS (l : List Kn) (hl : l.length ≤ 1099511627776) : Ev (fun k => laws_eqKinS.f k l l) true := by
  unfold laws_eqKinS.f
  exact ifp rfl (eqKinS_l l hl _ 0 (by omega) (Nat.le_refl _))
end Go.Proofs.Ytllihaahppelhaa.Pr
namespace Go.Proofs.Ytllihaahppelhaa.Pr
open Go.RowKit Go.Proofs.Ytllihaahppelhaa.P Go.Proofs.YtllihaahppelhaaW.PrintWords Go.Proofs.Ytllihaahppelhaa.E
theorem l1In (a lo hi : Int) : spec_l1In.f a lo hi = some (decide (lo ≤ a ∧ a ≤ hi)) := by
  unfold spec_l1In.f
  by_cases h : a ≥ lo
  · rw [if_pos h]; congr 1; simp; omega
  · rw [if_neg h]; congr 1; simp; omega
theorem between (a lo hi : Int) : impl_between.f a lo hi = some (decide (lo ≤ a ∧ a ≤ hi)) := l1In a lo hi
theorem rdI (l : List Int) (i : Nat) (h : i < l.length) : rd l (i : Int) = l[i] := by simp [rd, List.getD_eq_getElem?_getD, List.getElem?_eq_getElem h]
/-- The known parents. -/
def ps (k : Kn) : List Int := [k.f1, k.f2].filter fun x => !decide (x < 0)
theorem parents_f (k : Kn) : impl_Kin_parents.f k.f0 k.f1 k.f2 = some (ps k) := rfl
theorem ps_len (k : Kn) : (ps k).length ≤ 2 := by unfold ps; exact Nat.le_trans (List.length_filter_le _ _) (by simp)
theorem mem_ps (k : Kn) (p : Int) : p ∈ ps k ↔ (p = k.f1 ∨ p = k.f2) ∧ 0 ≤ p := by
  unfold ps
  simp [List.mem_filter]
/-- May k be told behind the first i of l? -/
def Fits (l : List Kn) (i : Nat) (k : Kn) : Prop := (0 ≤ k.f0 ∧ k.f0 ≤ 3000) ∧ ((k.f1 = -1 ∧ k.f2 = -1) ∨ ((0 ≤ k.f1 ∧ k.f1 < i ∧ 14 ≤ k.f0 - (rdK l k.f1).f0) ∧ (k.f2 = -1 ∨ (k.f1 < k.f2 ∧ k.f2 < i ∧ 14 ≤ k.f0 - (rdK l k.f2).f0))))
instance (l : List Kn) (i : Nat) (k : Kn) : Decidable (Fits l i k) := by unfold Fits; exact inferInstance
def Fam (l : List Kn) : Prop := (1 ≤ l.length ∧ l.length ≤ 14) ∧ ∀ i, (h : i < l.length) → Fits l i l[i]
noncomputable def good (l : List Kn) : Bool := dec (Fam l)
theorem good_iff (l : List Kn) : good l = true ↔ Fam l := dec_iff _
theorem good_of (l : List Kn) (h : Fam l) : good l = true := (good_iff l).2 h
theorem good_not (l : List Kn) (h : ¬ Fam l) : good l = false := by
  cases e : good l with
  | true => exact absurd ((good_iff l).1 e) h
  | false => rfl
theorem rdK_int (l : List Kn) (p : Int) (h0 : 0 ≤ p) (h1 : p < (l.length : Int)) : ∃ h : p.toNat < l.length, rd_T49 l p = l[p.toNat] := by
  have h : p.toNat < l.length := by omega
  refine ⟨h, ?_⟩
  have e := rdK_get l p.toNat h
  rw [Int.toNat_of_nonneg h0] at e
  exact e
theorem rdK_take (l : List Kn) (i : Nat) (hi : i ≤ l.length) (p : Int) (h0 : 0 ≤ p) (h1 : p < (i : Int)) : rdK (l.take i) p = rdK l p := by
  obtain ⟨h2, e2⟩ := rdK_int (l.take i) p h0 (by rw [List.length_take]; omega)
  obtain ⟨h3, e3⟩ := rdK_int l p h0 (by omega)
  show rd_T49 _ _ = rd_T49 _ _
  rw [e2, e3, List.getElem_take]
theorem Fits_take (l : List Kn) (i : Nat) (hi : i ≤ l.length) (k : Kn) : Fits (l.take i) i k ↔ Fits l i k := by
  unfold Fits
  refine and_congr_right fun _ => or_congr_right ?_
  by_cases h1 : 0 ≤ k.f1 ∧ k.f1 < (i : Int)
  · rw [rdK_take l i hi _ h1.1 h1.2]
    refine and_congr_right fun _ => or_congr_right ?_
    by_cases h2 : 0 ≤ k.f2 ∧ k.f2 < (i : Int)
    · rw [rdK_take l i hi _ h2.1 h2.2]
    · constructor <;> intro h <;> exact absurd (show 0 ≤ k.f2 ∧ k.f2 < (i : Int) by omega) h2
  · constructor <;> intro h <;> exact absurd ⟨h.1.1, h.1.2.1⟩ h1
def Years (l : List Kn) : Prop := ∀ i, (h : i < l.length) → 0 ≤ l[i].f0 ∧ l[i].f0 ≤ 3000
theorem Years_rd (l : List Kn) (hy : Years l) (p : Int) (h0 : 0 ≤ p) (h1 : p < (l.length : Int)) : 0 ≤ (rdK l p).f0 ∧ (rdK l p).f0 ≤ 3000 := by
  obtain ⟨h, e⟩ := rdK_int l p h0 h1
  show 0 ≤ (rd_T49 l p).f0 ∧ (rd_T49 l p).f0 ≤ 3000
  rw [e]; exact hy _ h
theorem faOlder (b : List Kn) (p born : Int) (hy : Years b) (hb : 0 ≤ born ∧ born ≤ 3000) (hl : b.length ≤ 1073741824) : spec_faOlder.f b p born = some (decide (0 ≤ p ∧ p < (b.length : Int) ∧ 14 ≤ born - (rdK b p).f0)) := by
  unfold spec_faOlder.f
  rw [w64 _ (by omega), l1In]
  simp only [Option.bind_some]
  by_cases h : 0 ≤ p ∧ p ≤ (b.length : Int) - 1
  · have hr : 0 ≤ (rd_T49 b p).f0 ∧ (rd_T49 b p).f0 ≤ 3000 := Years_rd b hy p h.1 (by omega)
    rw [if_pos (by simpa using h), if_pos h.1, if_pos (by omega), w64 _ (by omega)]
    congr 1
    rw [decide_eq_decide]
    constructor
    · intro h1; exact ⟨h.1, by omega, h1⟩
    · intro h1; exact h1.2.2
  · rw [if_neg (by simpa using h)]
    congr 1
    symm
    rw [decide_eq_false_iff_not]
    intro h1
    exact h ⟨h1.1, by omega⟩
theorem faFits (b : List Kn) (k : Kn) (hy : Years b) (hl : b.length ≤ 1073741824) : spec_faFits.f b k.f0 k.f1 k.f2 = some (decide (Fits b b.length k)) := by
  unfold spec_faFits.f
  rw [l1In]
  simp only [Option.bind_some]
  by_cases h0 : 0 ≤ k.f0 ∧ k.f0 ≤ 3000
  · rw [if_pos (by simpa using h0)]
    by_cases h1 : k.f1 = -1
    · rw [if_pos h1]
      congr 1
      rw [Bool.eq_iff_iff, decide_eq_true_iff, beq_iff_eq]
      unfold Fits
      constructor
      · intro h; exact ⟨h0, .inl ⟨h1, h⟩⟩
      · rintro ⟨_, h | h⟩
        · exact h.2
        · omega
    · rw [if_neg h1, faOlder b k.f1 k.f0 hy h0 hl]
      simp only [Option.bind_some]
      by_cases h2 : 0 ≤ k.f1 ∧ k.f1 < (b.length : Int) ∧ 14 ≤ k.f0 - (rdK b k.f1).f0
      · rw [if_pos (by simpa using h2)]
        by_cases h3 : k.f2 = -1
        · rw [if_pos h3]
          congr 1
          symm
          rw [decide_eq_true_iff]
          exact ⟨h0, .inr ⟨h2, .inl h3⟩⟩
        · rw [if_neg h3]
          by_cases h4 : k.f1 < k.f2
          · rw [if_pos h4, faOlder b k.f2 k.f0 hy h0 hl]
            simp only [Option.bind_some]
            congr 1
            rw [decide_eq_decide]
            unfold Fits
            constructor
            · intro h5; exact ⟨h0, .inr ⟨h2, .inr ⟨h4, h5.2.1, h5.2.2⟩⟩⟩
            · rintro ⟨_, h | h⟩
              · omega
              · rcases h.2 with h | h
                · exact absurd h h3
                · exact ⟨by omega, h.2.1, h.2.2⟩
          · rw [if_neg h4]
            congr 1
            symm
            rw [decide_eq_false_iff_not]
            rintro ⟨_, h | h⟩
            · omega
            · rcases h.2 with h | h
              · exact h3 h
              · exact h4 h.1
      · rw [if_neg (by simpa using h2)]
        congr 1
        symm
        rw [decide_eq_false_iff_not]
        rintro ⟨_, h | h⟩
        · omega
        · exact h2 h.1
  · rw [if_neg (by simpa using h0)]
    congr 1
    symm
    rw [decide_eq_false_iff_not]
    exact fun h => h0 h.1
def FamFrom (l : List Kn) (i : Nat) : Prop := ∀ j, i ≤ j → (h : j < l.length) → Fits l j l[j]
theorem FamFrom_step (l : List Kn) (i : Nat) (h : i < l.length) (hf : Fits l i l[i]) : FamFrom l (i + 1) ↔ FamFrom l i := by
  constructor
  · intro h1 j hj hl
    by_cases e : j = i
    · subst e; exact hf
    · exact h1 j (by omega) hl
  · intro h1 j hj hl
    exact h1 j (by omega) hl
def YearsTo (l : List Kn) (i : Nat) : Prop := ∀ j, j < i → (h : j < l.length) → 0 ≤ l[j].f0 ∧ l[j].f0 ≤ 3000
theorem YearsTo_take (l : List Kn) (i : Nat) (h : YearsTo l i) : Years (l.take i) := by
  intro j hj
  rw [List.length_take] at hj
  rw [List.getElem_take]
  exact h j (by omega) (by omega)
theorem YearsTo_step (l : List Kn) (i : Nat) (h : i < l.length) (hf : Fits l i l[i]) (hy : YearsTo l i) : YearsTo l (i + 1) := by
  intro j hj hl
  by_cases e : j = i
  · subst e; exact hf.1
  · exact hy j (by omega) hl
theorem faGood_l (l : List Kn) (hl : l.length ≤ 1073741824) (n : Nat) : ∀ i : Nat, i ≤ l.length → l.length - i ≤ n → YearsTo l i → Ev (fun k => spec_faGood.l0 k l l (l.length : Int) (i : Int)) (dec (FamFrom l i)) := by
  have stop : Ev (fun k => spec_faGood.l0 k l l (l.length : Int) (l.length : Int)) (dec (FamFrom l l.length)) := by
    refine Ev.step (f := fun k => _) (fun k => by rw [spec_faGood.l0]) (ifn (by omega) (evEq now ?_))
    symm
    refine dec_pos ?_
    intro j h1 h2
    omega
  induction n with
  | zero =>
    intro i h1 h2 _
    obtain rfl : i = l.length := by omega
    exact stop
  | succ n ih =>
    intro i h1 h2 hy
    by_cases hi : i < l.length
    · refine Ev.step (f := fun k => _) (fun k => by rw [spec_faGood.l0]) (ifp (by omega) (ifp (by omega) (ifp (by omega) (ifp (by omega) ?_))))
      rw [rdK_get l i hi, Int.toNat_natCast, w64 _ (by omega)]
      have hf := faFits (l.take i) l[i] (YearsTo_take l i hy) (by rw [List.length_take]; omega)
      have e : (l.take i).length = i := by rw [List.length_take]; omega
      rw [e] at hf
      refine call hf ?_
      by_cases hq : Fits l i l[i]
      · refine ifp (by simpa using (Fits_take l i h1 l[i]).2 hq) (evEq (ih (i + 1) (by omega) (by omega) (YearsTo_step l i hi hq hy)) ?_)
        exact dec_congr (FamFrom_step l i hi hq)
      · refine ifn (by simpa using fun h => hq ((Fits_take l i h1 l[i]).1 h)) (evEq now ?_)
        symm
        exact dec_neg fun h => hq (h i (Nat.le_refl _) hi)
    · obtain rfl : i = l.length := by omega
      exact stop
theorem faGood (l : List Kn) (hl : l.length ≤ 1073741824) : Ev (fun k => spec_faGood.f k l) (good l) := by
  unfold spec_faGood.f
  refine call (l1In _ _ _) ?_
  by_cases h : 1 ≤ l.length ∧ l.length ≤ 14
  · refine ifp (by simp; omega) (evEq (faGood_l l hl _ 0 (by omega) (Nat.le_refl _) (fun j hj => absurd hj (Nat.not_lt_zero _))) ?_)
    refine dec_congr ?_
    constructor
    · intro h1; exact ⟨h, fun i hi => h1 i (by omega) hi⟩
    · intro h1 j _ hj; exact h1.2 j hj
  · refine ifn (by simp; omega) (evEq now ?_)
    rw [good_not l fun h1 => h h1.1]
end Go.Proofs.Ytllihaahppelhaa.Pr
namespace Go.Proofs.Ytllihaahppelhaa.Pr
open Go.RowKit Go.Proofs.Ytllihaahppelhaa.P Go.Proofs.YtllihaahppelhaaW.PrintWords Go.Proofs.Ytllihaahppelhaa.E
/-- The program's tests of one of the kin. -/
def Own (i : Nat) (k : Kn) : Prop := (0 ≤ k.f0 ∧ k.f0 ≤ 3000) ∧ (-1 ≤ k.f1 ∧ k.f1 ≤ (i : Int) - 1) ∧ (-1 ≤ k.f2 ∧ k.f2 ≤ (i : Int) - 1) ∧ ¬ (0 ≤ k.f2 ∧ k.f2 ≤ k.f1) ∧ ¬ (k.f1 < 0 ∧ 0 ≤ k.f2)
theorem Fits_own (l : List Kn) (i : Nat) (k : Kn) : Fits l i k ↔ Own i k ∧ ∀ p ∈ ps k, (rdK l p).f0 + 14 ≤ k.f0 := by
  unfold Fits Own
  simp only [mem_ps]
  constructor
  · rintro ⟨h0, h | ⟨h1, h2⟩⟩
    · refine ⟨⟨h0, by omega, by omega, by omega, by omega⟩, ?_⟩
      rintro p ⟨h3 | h3, h4⟩ <;> omega
    · rcases h2 with h2 | h2
      · refine ⟨⟨h0, by omega, by omega, by omega, by omega⟩, ?_⟩
        rintro p ⟨h3 | h3, h4⟩
        · subst h3; omega
        · omega
      · refine ⟨⟨h0, by omega, by omega, by omega, by omega⟩, ?_⟩
        rintro p ⟨h3 | h3, h4⟩
        · subst h3; omega
        · subst h3; omega
  · rintro ⟨⟨h0, h1, h2, h3, h4⟩, h5⟩
    refine ⟨h0, ?_⟩
    by_cases e : k.f1 = -1
    · exact .inl ⟨e, by omega⟩
    · refine .inr ⟨⟨by omega, by omega, ?_⟩, ?_⟩
      · have := h5 k.f1 ⟨.inl rfl, by omega⟩
        omega
      · by_cases e2 : k.f2 = -1
        · exact .inl e2
        · refine .inr ⟨by omega, by omega, ?_⟩
          have := h5 k.f2 ⟨.inr rfl, by omega⟩
          omega
theorem isFamily_l1 (l : List Kn) (i : Nat) (k : Kn) (r : Bool) (L : List Int) (hi : i < l.length) (hL : L.length ≤ 2) (hy : YearsTo l i) (hv : ∀ p ∈ L, 0 ≤ p ∧ p < (i : Int)) (hr : Ev (fun n => impl_IsFamily.l0 n l l (l.length : Int) (wrap64 ((i : Int) + 1))) r) (n : Nat) :
    ∀ j : Nat, j ≤ L.length → L.length - j ≤ n → Ev (fun n => impl_IsFamily.l1 n l l (l.length : Int) (i : Int) L (L.length : Int) (j : Int) k.f0 k.f1 k.f2) (if (∀ p ∈ L.drop j, (rdK l p).f0 + 14 ≤ k.f0) then r else false) := by
  have stop : Ev (fun n => impl_IsFamily.l1 n l l (l.length : Int) (i : Int) L (L.length : Int) (L.length : Int) k.f0 k.f1 k.f2) (if (∀ p ∈ L.drop L.length, (rdK l p).f0 + 14 ≤ k.f0) then r else false) := by
    rw [if_pos (by simp)]
    exact Ev.step (f := fun k => _) (fun k => by rw [impl_IsFamily.l1]) (ifn (by omega) hr)
  induction n with
  | zero =>
    intro j h1 h2
    obtain rfl : j = L.length := by omega
    exact stop
  | succ n ih =>
    intro j h1 h2
    by_cases hj : j < L.length
    · have hp := hv L[j] (List.getElem_mem hj)
      have hb : 0 ≤ (rd_T49 l L[j]).f0 ∧ (rd_T49 l L[j]).f0 ≤ 3000 := by
        obtain ⟨h3, e3⟩ := rdK_int l L[j] hp.1 (by omega)
        rw [e3]; exact hy _ (by omega) h3
      refine Ev.step (f := fun k => _) (fun k => by rw [impl_IsFamily.l1]) (ifp (by omega) (ifp (by omega) (ifp (by omega) ?_)))
      rw [rdI L j hj, w64 (j + 1) (by omega), w64 _ (by omega)]
      refine ifp hp.1 (ifp (by omega) ?_)
      have e : (∀ p ∈ L.drop j, (rdK l p).f0 + 14 ≤ k.f0) ↔ (rdK l L[j]).f0 + 14 ≤ k.f0 ∧ ∀ p ∈ L.drop (j + 1), (rdK l p).f0 + 14 ≤ k.f0 := by
        rw [List.drop_eq_getElem_cons hj]
        simp only [List.mem_cons, forall_eq_or_imp]
      by_cases h3 : (rdK l L[j]).f0 + 14 ≤ k.f0
      · have h3' : (rd_T49 l L[j]).f0 + 14 ≤ k.f0 := h3
        refine ifn (by omega) (evEq (ih (j + 1) (by omega) (by omega)) ?_)
        simp only [e, h3, true_and]
      · have h3' : ¬ (rd_T49 l L[j]).f0 + 14 ≤ k.f0 := h3
        refine ifp (by omega) (evEq now ?_)
        rw [if_neg (fun h => h3 (e.1 h).1)]
    · obtain rfl : j = L.length := by omega
      exact stop
theorem isFamily_j1 (l : List Kn) (i : Nat) (k : Kn) (x r : Bool) (hi : i < l.length) (hy : YearsTo l i) (h0 : 0 ≤ k.f0 ∧ k.f0 ≤ 3000) (h1 : -1 ≤ k.f1 ∧ k.f1 ≤ (i : Int) - 1) (h2 : -1 ≤ k.f2 ∧ k.f2 ≤ (i : Int) - 1) (hx : x = decide ((0 ≤ k.f2 ∧ k.f2 ≤ k.f1) ∨ (k.f1 < 0 ∧ 0 ≤ k.f2)))
    (hr : Ev (fun n => impl_IsFamily.l0 n l l (l.length : Int) (wrap64 ((i : Int) + 1))) r) : Ev (fun n => impl_IsFamily.j1 n l l (l.length : Int) (i : Int) x k.f0 k.f1 k.f2) (if Fits l i k then r else false) := by
  refine Ev.step (f := fun k => _) (fun k => by rw [impl_IsFamily.j1]) ?_
  subst hx
  by_cases h : (0 ≤ k.f2 ∧ k.f2 ≤ k.f1) ∨ (k.f1 < 0 ∧ 0 ≤ k.f2)
  · refine ifp (by simpa using h) (evEq now ?_)
    rw [if_neg]
    intro h3
    have := ((Fits_own l i k).1 h3).1
    unfold Own at this
    rcases h with h | h
    · exact this.2.2.2.1 h
    · exact this.2.2.2.2 h
  · refine ifn (by simpa using h) (call (parents_f k) ?_)
    have h4 := isFamily_l1 l i k r (ps k) hi (ps_len k) hy (fun p hp => by rw [mem_ps] at hp; omega) hr _ 0 (by omega) (Nat.le_refl _)
    refine evEq h4 ?_
    have e : (∀ p ∈ (ps k).drop 0, (rdK l p).f0 + 14 ≤ k.f0) ↔ Fits l i k := by
      rw [Fits_own, List.drop_zero]
      constructor
      · intro h5; exact ⟨⟨h0, h1, h2, fun h6 => h (.inl h6), fun h6 => h (.inr h6)⟩, h5⟩
      · exact fun h5 => h5.2
    simp only [e]
theorem isFamily_l (l : List Kn) (hl : l.length ≤ 1073741824) (n : Nat) : ∀ i : Nat, i ≤ l.length → l.length - i ≤ n → YearsTo l i → Ev (fun k => impl_IsFamily.l0 k l l (l.length : Int) (i : Int)) (dec (FamFrom l i)) := by
  have stop : Ev (fun k => impl_IsFamily.l0 k l l (l.length : Int) (l.length : Int)) (dec (FamFrom l l.length)) := by
    refine Ev.step (f := fun k => _) (fun k => by rw [impl_IsFamily.l0]) (ifn (by omega) (evEq now ?_))
    symm
    refine dec_pos ?_
    intro j h1 h2
    omega
  induction n with
  | zero =>
    intro i h1 h2 _
    obtain rfl : i = l.length := by omega
    exact stop
  | succ n ih =>
    intro i h1 h2 hy
    by_cases hi : i < l.length
    · have key : Ev (fun k => impl_IsFamily.l0 k l l (l.length : Int) (i : Int)) (if Fits l i l[i] then dec (FamFrom l (i + 1)) else false) ∨ Ev (fun k => impl_IsFamily.l0 k l l (l.length : Int) (i : Int)) (if Fits l i l[i] then dec (FamFrom l i) else false) := by
        generalize hk : l[i] = k
        have go : ∀ x : Bool, x = decide ((0 ≤ k.f2 ∧ k.f2 ≤ k.f1) ∨ (k.f1 < 0 ∧ 0 ≤ k.f2)) → (0 ≤ k.f0 ∧ k.f0 ≤ 3000) → (-1 ≤ k.f1 ∧ k.f1 ≤ (i : Int) - 1) → (-1 ≤ k.f2 ∧ k.f2 ≤ (i : Int) - 1) →
            Ev (fun n => impl_IsFamily.j1 n l l (l.length : Int) (i : Int) x k.f0 k.f1 k.f2) (if Fits l i k then dec (FamFrom l i) else false) := by
          intro x hx a0 a1 a2
          by_cases hf : Fits l i k
          · have h3 := ih (i + 1) (by omega) (by omega) (YearsTo_step l i hi (by rw [hk]; exact hf) hy)
            rw [show ((i + 1 : Nat) : Int) = wrap64 ((i : Int) + 1) by rw [w64 _ (by omega)]; rfl] at h3
            refine evEq (isFamily_j1 l i k x _ hi hy a0 a1 a2 hx h3) ?_
            rw [if_pos hf, if_pos hf]
            exact dec_congr (FamFrom_step l i hi (by rw [hk]; exact hf))
          · refine Ev.step (f := fun k => _) (fun k => by rw [impl_IsFamily.j1]) ?_
            subst hx
            rw [if_neg hf]
            by_cases h : (0 ≤ k.f2 ∧ k.f2 ≤ k.f1) ∨ (k.f1 < 0 ∧ 0 ≤ k.f2)
            · exact ifp (by simpa using h) now
            · refine ifn (by simpa using h) (call (parents_f k) ?_)
              have hex : ∃ j : Nat, j ≤ (ps k).length ∧ True := ⟨0, by omega, trivial⟩
              clear hex
              have nf : ¬ ∀ p ∈ ps k, (rdK l p).f0 + 14 ≤ k.f0 := fun h5 => hf ((Fits_own l i k).2 ⟨⟨a0, a1, a2, fun h6 => h (.inl h6), fun h6 => h (.inr h6)⟩, h5⟩)
              have stuck : ∀ (n : Nat) (j : Nat), j ≤ (ps k).length → (ps k).length - j ≤ n → (¬ ∀ p ∈ (ps k).drop j, (rdK l p).f0 + 14 ≤ k.f0) → Ev (fun n => impl_IsFamily.l1 n l l (l.length : Int) (i : Int) (ps k) ((ps k).length : Int) (j : Int) k.f0 k.f1 k.f2) false := by
                intro n
                induction n with
                | zero =>
                  intro j h1 h2 h3
                  exact absurd (by rw [List.drop_eq_nil_of_le (by omega)]; simp) h3
                | succ n ih2 =>
                  intro j h1 h2 h3
                  by_cases hj : j < (ps k).length
                  · have hL := ps_len k
                    have hp : 0 ≤ (ps k)[j] ∧ (ps k)[j] < (i : Int) := by
                      have := (mem_ps k (ps k)[j]).1 (List.getElem_mem hj)
                      omega
                    have hb : 0 ≤ (rd_T49 l (ps k)[j]).f0 ∧ (rd_T49 l (ps k)[j]).f0 ≤ 3000 := by
                      obtain ⟨h3, e3⟩ := rdK_int l (ps k)[j] hp.1 (by omega)
                      rw [e3]; exact hy _ (by omega) h3
                    refine Ev.step (f := fun k => _) (fun k => by rw [impl_IsFamily.l1]) (ifp (by omega) (ifp (by omega) (ifp (by omega) ?_)))
                    rw [rdI (ps k) j hj, w64 (j + 1) (by omega), w64 _ (by omega)]
                    refine ifp hp.1 (ifp (by omega) ?_)
                    by_cases h4 : (rdK l (ps k)[j]).f0 + 14 ≤ k.f0
                    · have h4' : (rd_T49 l (ps k)[j]).f0 + 14 ≤ k.f0 := h4
                      refine ifn (by omega) (ih2 (j + 1) (by omega) (by omega) ?_)
                      intro h5
                      apply h3
                      rw [List.drop_eq_getElem_cons hj]
                      simp only [List.mem_cons, forall_eq_or_imp]
                      exact ⟨h4, h5⟩
                    · have h4' : ¬ (rd_T49 l (ps k)[j]).f0 + 14 ≤ k.f0 := h4
                      exact ifp (by omega) now
                  · exact absurd (by rw [List.drop_eq_nil_of_le (by omega)]; simp) h3
              exact stuck _ 0 (by omega) (Nat.le_refl _) (by simpa using nf)
        have bad : ¬ Fits l i k → (false : Bool) = (if Fits l i k then dec (FamFrom l i) else false) := fun h => by rw [if_neg h]
        refine .inr (Ev.step (f := fun k => _) (fun k => by rw [impl_IsFamily.l0]) (ifp (by omega) (ifp (by omega) (ifp (by omega) ?_))))
        rw [rdK_get l i hi, hk, w64 ((i : Int) - 1) (by omega)]
        refine call (between _ _ _) ?_
        by_cases a0 : 0 ≤ k.f0 ∧ k.f0 ≤ 3000
        · refine ifp (by simpa using a0) (call (between _ _ _) ?_)
          by_cases a1 : -1 ≤ k.f1 ∧ k.f1 ≤ (i : Int) - 1
          · refine ifp (by simpa using a1) (call (between _ _ _) ?_)
            by_cases a2 : -1 ≤ k.f2 ∧ k.f2 ≤ (i : Int) - 1
            · refine ifp (by simpa using a2) ?_
              by_cases b0 : k.f2 ≥ 0
              · refine ifp b0 ?_
                by_cases b1 : k.f2 ≤ k.f1
                · exact ifp b1 (go _ (by symm; rw [decide_eq_true_iff]; omega) a0 a1 a2)
                · refine ifn b1 ?_
                  by_cases b2 : k.f1 < 0
                  · exact ifp b2 (go _ (by rw [decide_eq_decide]; omega) a0 a1 a2)
                  · exact ifn b2 (go _ (by symm; rw [decide_eq_false_iff_not]; omega) a0 a1 a2)
              · refine ifn b0 ?_
                by_cases b2 : k.f1 < 0
                · exact ifp b2 (go _ (by rw [decide_eq_decide]; omega) a0 a1 a2)
                · exact ifn b2 (go _ (by symm; rw [decide_eq_false_iff_not]; omega) a0 a1 a2)
            · refine ifn (by simpa using a2) ?_
              have nf : ¬ Fits l i k := fun h => a2 ((Fits_own l i k).1 h).1.2.2.1
              refine Ev.step (f := fun k => _) (fun k => by rw [impl_IsFamily.j1]) (ifp rfl (evEq now (bad nf)))
          · refine ifn (by simpa using a1) ?_
            have nf : ¬ Fits l i k := fun h => a1 ((Fits_own l i k).1 h).1.2.1
            refine Ev.step (f := fun k => _) (fun k => by rw [impl_IsFamily.j1]) (ifp rfl (evEq now (bad nf)))
        · refine ifn (by simpa using a0) ?_
          have nf : ¬ Fits l i k := fun h => a0 h.1
          refine Ev.step (f := fun k => _) (fun k => by rw [impl_IsFamily.j1]) (ifp rfl (evEq now (bad nf)))
      rcases key with key | key
      · refine evEq key ?_
        by_cases hf : Fits l i l[i]
        · rw [if_pos hf]; exact dec_congr (FamFrom_step l i hi hf)
        · rw [if_neg hf]; symm; exact dec_neg fun h => hf (h i (Nat.le_refl _) hi)
      · refine evEq key ?_
        by_cases hf : Fits l i l[i]
        · rw [if_pos hf]
        · rw [if_neg hf]; symm; exact dec_neg fun h => hf (h i (Nat.le_refl _) hi)
    · obtain rfl : i = l.length := by omega
      exact stop
theorem isFamily (l : List Kn) (hl : l.length ≤ 1073741824) : Ev (fun k => impl_IsFamily.f k l) (good l) := by
  unfold impl_IsFamily.f
  refine call (between _ _ _) ?_
  by_cases h : 1 ≤ l.length ∧ l.length ≤ 14
  · refine ifp (by simp; omega) (evEq (isFamily_l l hl _ 0 (by omega) (Nat.le_refl _) (fun j hj => absurd hj (Nat.not_lt_zero _))) ?_)
    refine dec_congr ?_
    constructor
    · intro h1; exact ⟨h, fun i hi => h1 i (by omega) hi⟩
    · intro h1 j _ hj; exact h1.2 j hj
  · refine ifn (by simp; omega) (evEq now ?_)
    rw [good_not l fun h1 => h h1.1]
end Go.Proofs.Ytllihaahppelhaa.Pr
namespace Go.Proofs.Ytllihaahppelhaa.Pr
open Go.RowKit Go.Proofs.Ytllihaahppelhaa.P Go.Proofs.YtllihaahppelhaaW.PrintWords Go.Proofs.Ytllihaahppelhaa.E
def inR (l : List Kn) (i : Int) : Bool := decide (0 ≤ i ∧ i < (l.length : Int))
theorem inR_iff (l : List Kn) (i : Int) : inR l i = true ↔ 0 ≤ i ∧ i < (l.length : Int) := by unfold inR; exact decide_eq_true_iff
theorem faWho (l : List Kn) (hl : l.length ≤ 1073741824) (a : Int) : Ev (fun k => spec_faWho.f k l a) (good l && inR l a) := by
  unfold spec_faWho.f
  refine Ev.bind (faGood l hl) ?_
  cases good l with
  | true =>
    refine ifp rfl (call (l1In _ _ _) (evEq now ?_))
    rw [w64 _ (by omega), Bool.true_and]
    unfold inR
    rw [decide_eq_decide]; omega
  | false => exact ifn (by simp) now
theorem areBetween_f (L : List Int) (lo hi : Int) : impl_areBetween.f L lo hi = some (L.all fun n => decide (lo ≤ n) && decide (n ≤ hi)) := rfl
theorem hasKin (l : List Kn) (hl : l.length ≤ 1073741824) (L : List Int) : Ev (fun k => impl_hasKin.f k l L) (good l && L.all (inR l)) := by
  unfold impl_hasKin.f
  refine Ev.bind (isFamily l hl) ?_
  cases good l with
  | true =>
    refine ifp rfl (call (areBetween_f _ _ _) (evEq now ?_))
    rw [w64 _ (by omega), Bool.true_and]
    congr 1
    funext n
    unfold inR
    rw [Bool.eq_iff_iff]
    simp
    omega
  | false => exact ifn (by simp) now
end Go.Proofs.Ytllihaahppelhaa.Pr
namespace Go.Proofs.Ytllihaahppelhaa.Pr
open Go.RowKit Go.Proofs.Ytllihaahppelhaa.P Go.Proofs.YtllihaahppelhaaW.PrintWords Go.Proofs.Ytllihaahppelhaa.E
theorem faParents_l (L : List Int) (hL : L.length ≤ 1000) (n : Nat) : ∀ (i : Nat) (acc : List Int), i ≤ L.length → L.length - i ≤ n → acc.length ≤ i →
    Ev (fun k => spec_faParents.l0 k acc L (L.length : Int) (i : Int)) (acc ++ (L.drop i).filter fun x => !decide (x < 0)) := by
  induction n with
  | zero =>
    intro i acc h1 h2 h3
    obtain rfl : i = L.length := by omega
    refine Ev.step (f := fun k => _) (fun k => by rw [spec_faParents.l0]) (ifn (by omega) (evEq now ?_))
    simp
  | succ n ih =>
    intro i acc h1 h2 h3
    by_cases hi : i < L.length
    · refine Ev.step (f := fun k => _) (fun k => by rw [spec_faParents.l0]) (ifp (by omega) (ifp (by omega) (ifp (by omega) ?_)))
      rw [rdI L i hi, w64 _ (by omega), List.drop_eq_getElem_cons hi]
      by_cases hx : L[i] ≥ 0
      · refine ifp hx (ifp (by omega) (evEq (ih (i + 1) (acc ++ [L[i]]) (by omega) (by omega) (by simp; omega)) ?_))
        rw [List.filter_cons_of_pos (by simpa using hx)]
        simp
      · refine ifn hx (evEq (ih (i + 1) acc (by omega) (by omega) (by omega)) ?_)
        rw [List.filter_cons_of_neg (by simp; omega)]
    · obtain rfl : i = L.length := by omega
      refine Ev.step (f := fun k => _) (fun k => by rw [spec_faParents.l0]) (ifn (by omega) (evEq now ?_))
      simp
theorem faParents (l : List Kn) (i : Nat) (hi : i < l.length) : Ev (fun k => spec_faParents.f k l (i : Int)) (ps l[i]) := by
  unfold spec_faParents.f
  refine ifp (by omega) (ifp (by omega) ?_)
  rw [rdK_get l i hi]
  exact faParents_l [l[i].f1, l[i].f2] (by simp) _ 0 [] (by omega) (Nat.le_refl _) (by simp)
theorem l1Has_l (x : Int) (L : List Int) (hL : L.length ≤ 1073741824) (n : Nat) : ∀ i : Nat, i ≤ L.length → L.length - i ≤ n → Ev (fun k => spec_l1Has.l0 k x L (L.length : Int) (i : Int)) ((L.drop i).contains x) := by
  induction n with
  | zero =>
    intro i h1 h2
    obtain rfl : i = L.length := by omega
    exact Ev.step (f := fun k => _) (fun k => by rw [spec_l1Has.l0]) (ifn (by omega) (evEq now (by simp)))
  | succ n ih =>
    intro i h1 h2
    by_cases hi : i < L.length
    · refine Ev.step (f := fun k => _) (fun k => by rw [spec_l1Has.l0]) (ifp (by omega) (ifp (by omega) (ifp (by omega) ?_)))
      rw [rdI L i hi, w64 _ (by omega), List.drop_eq_getElem_cons hi, List.contains_cons]
      by_cases hx : L[i] = x
      · exact ifp hx (evEq now (by simp [hx]))
      · have h5 : (x == L[i]) = false := by simpa using fun h => hx h.symm
        rw [h5, Bool.false_or]
        exact ifn hx (ih (i + 1) (by omega) (by omega))
    · obtain rfl : i = L.length := by omega
      exact Ev.step (f := fun k => _) (fun k => by rw [spec_l1Has.l0]) (ifn (by omega) (evEq now (by simp)))
theorem l1Has (x : Int) (L : List Int) (hL : L.length ≤ 1073741824) : Ev (fun k => spec_l1Has.f k L x) (L.contains x) := l1Has_l x L hL _ 0 (by omega) (Nat.le_refl _)
end Go.Proofs.Ytllihaahppelhaa.Pr
namespace Go.Proofs.Ytllihaahppelhaa.Pr
open Go.RowKit Go.Proofs.Ytllihaahppelhaa.P Go.Proofs.YtllihaahppelhaaW.PrintWords Go.Proofs.Ytllihaahppelhaa.E
/-- The parents of somebody. -/
abbrev pp (l : List Kn) (i : Int) : List Int := ps (rdK l i)
theorem faParentsI (l : List Kn) (i : Int) (h : 0 ≤ i ∧ i < (l.length : Int)) : Ev (fun k => spec_faParents.f k l i) (pp l i) := by
  obtain ⟨h2, e2⟩ := rdK_int l i h.1 h.2
  have := faParents l i.toNat h2
  rw [Int.toNat_of_nonneg h.1] at this
  show Ev _ (ps (rd_T49 l i))
  rw [e2]
  exact this
theorem Fam_pp (l : List Kn) (hf : Fam l) (i p : Int) (hi : 0 ≤ i ∧ i < (l.length : Int)) (hp : p ∈ pp l i) : 0 ≤ p ∧ p < i := by
  obtain ⟨h2, e2⟩ := rdK_int l i hi.1 hi.2
  change p ∈ ps (rd_T49 l i) at hp
  rw [e2] at hp
  have h3 := hf.2 _ h2
  have h4 := (mem_ps _ p).1 hp
  unfold Fits at h3
  omega
end Go.Proofs.Ytllihaahppelhaa.Pr
namespace Go.Proofs.Ytllihaahppelhaa.Pr
open Go.RowKit Go.Proofs.Ytllihaahppelhaa.P Go.Proofs.YtllihaahppelhaaW.PrintWords Go.Proofs.Ytllihaahppelhaa.E
theorem faTwo (l : List Kn) (hl : l.length ≤ 1073741824) (a b : Int) : Ev (fun k => spec_faTwo.f k l a b) (good l && (inR l a && inR l b)) := by
  unfold spec_faTwo.f
  refine Ev.bind (faWho l hl a) ?_
  rw [← Bool.and_assoc]
  cases good l && inR l a with
  | true =>
    refine ifp rfl (call (l1In _ _ _) (evEq now ?_))
    rw [w64 _ (by omega), Bool.true_and]
    unfold inR
    rw [decide_eq_decide]; omega
  | false => exact ifn (by simp) now
end Go.Proofs.Ytllihaahppelhaa.Pr
namespace Go.Proofs.Ytllihaahppelhaa.Pr
open Go.RowKit Go.Proofs.Ytllihaahppelhaa.P Go.Proofs.YtllihaahppelhaaW.PrintWords Go.Proofs.Ytllihaahppelhaa.E
def shared (l : List Kn) (a b : Int) : List Int := (pp l a).filter fun x => (pp l b).contains x
theorem shared_len (l : List Kn) (a b : Int) : (shared l a b).length ≤ 2 := Nat.le_trans (List.length_filter_le _ _) (ps_len _)
theorem faShared_l (l : List Kn) (b : Int) (hb : 0 ≤ b ∧ b < (l.length : Int)) (L : List Int) (hL : L.length ≤ 1000) (n : Nat) : ∀ (i : Nat) (c : Nat), i ≤ L.length → L.length - i ≤ n → c ≤ i →
    Ev (fun k => spec_faShared.l0 k l b (c : Int) L (L.length : Int) (i : Int)) ((c + ((L.drop i).filter fun x => (pp l b).contains x).length : Nat) : Int) := by
  have stop : ∀ c : Nat, Ev (fun k => spec_faShared.l0 k l b (c : Int) L (L.length : Int) (L.length : Int)) ((c + ((L.drop L.length).filter fun x => (pp l b).contains x).length : Nat) : Int) := fun c =>
    Ev.step (f := fun k => _) (fun k => by rw [spec_faShared.l0]) (ifn (by omega) (evEq now (by simp)))
  induction n with
  | zero =>
    intro i c h1 h2 h3
    obtain rfl : i = L.length := by omega
    exact stop c
  | succ n ih =>
    intro i c h1 h2 h3
    by_cases hi : i < L.length
    · refine Ev.step (f := fun k => _) (fun k => by rw [spec_faShared.l0]) (ifp (by omega) (ifp (by omega) (ifp (by omega) ?_)))
      refine Ev.bind (faParentsI l b hb) ?_
      rw [rdI L i hi, w64 (i + 1) (by omega), w64 (c + 1) (by omega)]
      refine Ev.bind (l1Has _ _ (Nat.le_trans (ps_len _) (by decide))) ?_
      rw [List.drop_eq_getElem_cons hi]
      cases h : (pp l b).contains L[i] with
      | true =>
        refine ifp rfl ?_
        rw [List.filter_cons_of_pos h]
        refine evEq (ih (i + 1) (c + 1) (by omega) (by omega) (by omega)) ?_
        rw [List.length_cons]
        exact congrArg Nat.cast ((show ∀ x : Nat, c + 1 + x = c + (x + 1) from fun x => by omega) _)
      | false =>
        refine ifn (by simp) ?_
        rw [List.filter_cons_of_neg (by simpa using h)]
        exact ih (i + 1) c (by omega) (by omega) (by omega)
    · obtain rfl : i = L.length := by omega
      exact stop c
theorem faShared (l : List Kn) (a b : Int) (ha : 0 ≤ a ∧ a < (l.length : Int)) (hb : 0 ≤ b ∧ b < (l.length : Int)) : Ev (fun k => spec_faShared.f k l a b) ((shared l a b).length : Int) := by
  unfold spec_faShared.f
  refine Ev.bind (faParentsI l a ha) ?_
  refine evEq (faShared_l l b hb (pp l a) (Nat.le_trans (ps_len _) (by decide)) _ 0 0 (by omega) (Nat.le_refl _) (by omega)) ?_
  simp [shared]
theorem inCommon (l : List Kn) (a b : Int) (ha : 0 ≤ a ∧ a < (l.length : Int)) (hb : 0 ≤ b ∧ b < (l.length : Int)) : impl_inCommon.f l a b = some (if a = b then 0 else ((shared l a b).length : Int)) := by
  have e : ∀ i : Int, impl_Kin_parents.f (rd_T49 l i).f0 (rd_T49 l i).f1 (rd_T49 l i).f2 = some (pp l i) := fun i => rfl
  have h2 : impl_common.f (pp l a) (pp l b) = some (shared l a b) := if_pos (Nat.lt_of_le_of_lt (ps_len _) (by decide))
  unfold impl_inCommon.f
  by_cases h : a = b
  · rw [if_pos h, if_pos h]
  · rw [if_neg h, if_neg h, if_pos ha.1, if_pos ha.2, e a]
    simp only [Option.bind_some]
    rw [if_pos hb.1, if_pos hb.2, e b]
    simp only [Option.bind_some]
    rw [h2]
    rfl
/-- Are they siblings? -/
def sib (l : List Kn) (a b : Int) : Bool := if a = b then false else decide (((shared l a b).length : Int) > 0)
theorem faSiblings (l : List Kn) (a b : Int) (ha : 0 ≤ a ∧ a < (l.length : Int)) (hb : 0 ≤ b ∧ b < (l.length : Int)) : Ev (fun k => spec_faSiblings.f k l a b) (sib l a b) := by
  unfold spec_faSiblings.f
  by_cases h : a = b
  · exact ifp h (evEq now (by rw [sib, if_pos h]))
  · refine ifn h (Ev.bind (faShared l a b ha hb) (evEq now (by rw [sib, if_neg h])))
theorem areSiblings (l : List Kn) (a b : Int) (ha : 0 ≤ a ∧ a < (l.length : Int)) (hb : 0 ≤ b ∧ b < (l.length : Int)) : impl_areSiblings.f l a b = some (sib l a b) := by
  unfold impl_areSiblings.f
  rw [inCommon l a b ha hb]
  simp only [Option.bind_some]
  unfold sib
  by_cases h : a = b
  · rw [if_pos h, if_pos h]; rfl
  · rw [if_neg h, if_neg h]
def aunt (l : List Kn) (a b : Int) : Bool := (pp l b).any fun p => sib l a p
theorem isAunt (l : List Kn) (hf : Fam l) (a b : Int) (ha : 0 ≤ a ∧ a < (l.length : Int)) (hb : 0 ≤ b ∧ b < (l.length : Int)) : impl_isAunt.f l a b = some (aunt l a b) := by
  have hs : ∀ p ∈ pp l b, impl_areSiblings.f l a p = some (sib l a p) := fun p hp => by
    have := Fam_pp l hf b p hb hp
    exact areSiblings l a p ha (by omega)
  have e : impl_isAunt.ps l b = pp l b := rfl
  unfold impl_isAunt.f
  rw [if_pos hb, e, if_pos (List.all_eq_true.2 fun p hp => by rw [hs p hp]; rfl)]
  congr 1
  unfold aunt
  rw [Bool.eq_iff_iff, List.any_eq_true, List.any_eq_true]
  constructor
  · rintro ⟨p, h1, h2⟩; rw [hs p h1] at h2; exact ⟨p, h1, h2⟩
  · rintro ⟨p, h1, h2⟩; refine ⟨p, h1, ?_⟩; rw [hs p h1]; exact h2
def cous (l : List Kn) (a b : Int) : Bool := if a = b then false else if sib l a b = true then false else (pp l a).any fun p => aunt l p b
theorem areCousins (l : List Kn) (hf : Fam l) (a b : Int) (ha : 0 ≤ a ∧ a < (l.length : Int)) (hb : 0 ≤ b ∧ b < (l.length : Int)) : impl_areCousins.f l a b = some (cous l a b) := by
  have hs : ∀ p ∈ pp l a, impl_isAunt.f l p b = some (aunt l p b) := fun p hp => by
    have := Fam_pp l hf a p ha hp
    exact isAunt l hf p b (by omega) hb
  have e : impl_isAunt.ps l a = pp l a := rfl
  unfold impl_areCousins.f cous
  by_cases h : a = b
  · rw [if_pos h, if_pos h]
  · rw [if_neg h, if_neg h, areSiblings l a b ha hb]
    simp only [Option.bind_some]
    by_cases h2 : sib l a b = true
    · rw [if_pos h2, if_pos h2]
    · rw [if_neg h2, if_neg h2, if_pos ha, e, if_pos (List.all_eq_true.2 fun p hp => by rw [hs p hp]; rfl)]
      congr 1
      rw [Bool.eq_iff_iff, List.any_eq_true, List.any_eq_true]
      constructor
      · rintro ⟨p, h1, h2⟩; rw [hs p h1] at h2; exact ⟨p, h1, h2⟩
      · rintro ⟨p, h1, h2⟩; refine ⟨p, h1, ?_⟩; rw [hs p h1]; exact h2
theorem faCousins_l1 (l : List Kn) (b p : Int) (r : Bool) (L M : List Int) (i : Nat) (hp : 0 ≤ p ∧ p < (l.length : Int)) (hM : M.length ≤ 1000) (hM2 : ∀ q ∈ M, 0 ≤ q ∧ q < (l.length : Int)) (hr : Ev (fun k => spec_faCousins.l0 k l b L (L.length : Int) (wrap64 ((i : Int) + 1))) r) (n : Nat) :
    ∀ j : Nat, j ≤ M.length → M.length - j ≤ n → Ev (fun k => spec_faCousins.l1 k l b p L (L.length : Int) (i : Int) M (M.length : Int) (j : Int)) (((M.drop j).any fun q => sib l p q) || r) := by
  have stop : Ev (fun k => spec_faCousins.l1 k l b p L (L.length : Int) (i : Int) M (M.length : Int) (M.length : Int)) (((M.drop M.length).any fun q => sib l p q) || r) := by
    refine Ev.step (f := fun k => _) (fun k => by rw [spec_faCousins.l1]) (ifn (by omega) (evEq hr ?_))
    simp
  induction n with
  | zero =>
    intro j h1 h2
    obtain rfl : j = M.length := by omega
    exact stop
  | succ n ih =>
    intro j h1 h2
    by_cases hj : j < M.length
    · refine Ev.step (f := fun k => _) (fun k => by rw [spec_faCousins.l1]) (ifp (by omega) (ifp (by omega) (ifp (by omega) ?_)))
      rw [rdI M j hj, w64 (j + 1) (by omega)]
      refine Ev.bind (faSiblings l p M[j] hp (hM2 _ (List.getElem_mem hj))) ?_
      rw [List.drop_eq_getElem_cons hj, List.any_cons]
      cases h : sib l p M[j] with
      | true => exact ifp rfl (evEq now (by simp))
      | false => exact ifn (by simp) (evEq (ih (j + 1) (by omega) (by omega)) (by simp))
    · obtain rfl : j = M.length := by omega
      exact stop
theorem faCousins_l (l : List Kn) (hf : Fam l) (b : Int) (hb : 0 ≤ b ∧ b < (l.length : Int)) (L : List Int) (hL : L.length ≤ 1000) (hL2 : ∀ q ∈ L, 0 ≤ q ∧ q < (l.length : Int)) (n : Nat) :
    ∀ i : Nat, i ≤ L.length → L.length - i ≤ n → Ev (fun k => spec_faCousins.l0 k l b L (L.length : Int) (i : Int)) ((L.drop i).any fun p => aunt l p b) := by
  have stop : Ev (fun k => spec_faCousins.l0 k l b L (L.length : Int) (L.length : Int)) ((L.drop L.length).any fun p => aunt l p b) := by
    refine Ev.step (f := fun k => _) (fun k => by rw [spec_faCousins.l0]) (ifn (by omega) (evEq now ?_))
    simp
  induction n with
  | zero =>
    intro i h1 h2
    obtain rfl : i = L.length := by omega
    exact stop
  | succ n ih =>
    intro i h1 h2
    by_cases hi : i < L.length
    · refine Ev.step (f := fun k => _) (fun k => by rw [spec_faCousins.l0]) (ifp (by omega) (ifp (by omega) (ifp (by omega) ?_)))
      refine Ev.bind (faParentsI l b hb) ?_
      rw [rdI L i hi, List.drop_eq_getElem_cons hi, List.any_cons]
      have hr := ih (i + 1) (by omega) (by omega)
      rw [show ((i + 1 : Nat) : Int) = wrap64 ((i : Int) + 1) by rw [w64 _ (by omega)]; rfl] at hr
      have := faCousins_l1 l b L[i] _ L (pp l b) i (hL2 _ (List.getElem_mem hi)) (Nat.le_trans (ps_len _) (by decide)) (fun q hq => by have := Fam_pp l hf b q hb hq; omega) hr _ 0 (by omega) (Nat.le_refl _)
      exact this
    · obtain rfl : i = L.length := by omega
      exact stop
theorem faCousins (l : List Kn) (hf : Fam l) (a b : Int) (ha : 0 ≤ a ∧ a < (l.length : Int)) (hb : 0 ≤ b ∧ b < (l.length : Int)) : Ev (fun k => spec_faCousins.f k l a b) (cous l a b) := by
  unfold spec_faCousins.f cous
  by_cases h : a = b
  · rw [if_pos h]
    refine ifp h (Ev.step (f := fun k => _) (fun k => by rw [spec_faCousins.j0]) (ifp rfl now))
  · refine evEq (ifn h (Ev.bind (faSiblings l a b ha hb) (Ev.step (f := fun k => _) (fun k => by rw [spec_faCousins.j0]) ?_))) (if_neg h).symm
    by_cases h2 : sib l a b = true
    · exact ifp h2 (evEq now (if_pos h2).symm)
    · refine ifn h2 (Ev.bind (faParentsI l a ha) (evEq ?_ (if_neg h2).symm))
      exact faCousins_l l hf b hb (pp l a) (Nat.le_trans (ps_len _) (by decide)) (fun q hq => by have := Fam_pp l hf a q ha hq; omega) _ 0 (by omega) (Nat.le_refl _)
end Go.Proofs.Ytllihaahppelhaa.Pr
namespace Go.Proofs.Ytllihaahppelhaa.Pr
open Go.RowKit Go.Proofs.Ytllihaahppelhaa.P Go.Proofs.YtllihaahppelhaaW.PrintWords Go.Proofs.Ytllihaahppelhaa.E
theorem index (L : List Int) (hL : L.length ≤ 1073741824) (x : Int) (n : Nat) : ∀ i : Nat, i ≤ L.length → L.length - i ≤ n → Ev (fun k => (slices_Index_int_int.l0 k L x (L.length : Int) (i : Int)).bind fun t => some (decide (t ≥ 0))) ((L.drop i).contains x) := by
  induction n with
  | zero =>
    intro i h1 h2
    obtain rfl : i = L.length := by omega
    refine Ev.step (f := fun k => some ((L.drop L.length).contains x)) (fun k => by rw [slices_Index_int_int.l0, if_neg (by omega)]; simp) now
  | succ n ih =>
    intro i h1 h2
    by_cases hi : i < L.length
    · by_cases hx : x = L[i]
      · refine Ev.step (f := fun k => some ((L.drop i).contains x)) (fun k => ?_) now
        rw [slices_Index_int_int.l0, if_pos (by omega), if_pos (by omega), if_pos (by omega), rdI L i hi, if_pos hx, List.drop_eq_getElem_cons hi, List.contains_cons, hx]
        simp
      · refine Ev.step (f := fun k => (slices_Index_int_int.l0 k L x (L.length : Int) ((i + 1 : Nat) : Int)).bind fun t => some (decide (t ≥ 0))) (fun k => ?_) (evEq (ih (i + 1) (by omega) (by omega)) ?_)
        · rw [slices_Index_int_int.l0, if_pos (by omega), if_pos (by omega), if_pos (by omega), rdI L i hi, if_neg (by simpa using hx), w64 _ (by omega)]; rfl
        · rw [List.drop_eq_getElem_cons hi, List.contains_cons]
          simp [hx]
    · obtain rfl : i = L.length := by omega
      refine Ev.step (f := fun k => some ((L.drop L.length).contains x)) (fun k => by rw [slices_Index_int_int.l0, if_neg (by omega)]; simp) now
theorem contains (L : List Int) (hL : L.length ≤ 1073741824) (x : Int) : Ev (fun k => slices_Contains_int_int.f k L x) (L.contains x) := index L hL x _ 0 (by omega) (Nat.le_refl _)
end Go.Proofs.Ytllihaahppelhaa.Pr
namespace Go.Proofs.Ytllihaahppelhaa.Pr
open Go.RowKit Go.Proofs.Ytllihaahppelhaa.P Go.Proofs.YtllihaahppelhaaW.PrintWords Go.Proofs.Ytllihaahppelhaa.E
theorem isParent (l : List Kn) (a b : Int) (hb : 0 ≤ b ∧ b < (l.length : Int)) : Ev (fun k => impl_isParent.f k l a b) ((pp l b).contains a) := by
  unfold impl_isParent.f
  exact ifp hb.1 (ifp hb.2 (call (parents_f (rdK l b)) (Ev.bind (contains _ (Nat.le_trans (ps_len _) (by decide)) a) now)))
theorem faParent (l : List Kn) (a b : Int) : Ev (fun k => spec_l1Has.f k (pp l b) a) ((pp l b).contains a) := l1Has a _ (Nat.le_trans (ps_len _) (by decide))
def grand (l : List Kn) (a b : Int) : Bool := (pp l b).any fun p => (pp l p).contains a
theorem isGrand (l : List Kn) (hf : Fam l) (a b : Int) (hb : 0 ≤ b ∧ b < (l.length : Int)) : impl_isGrand.f l a b = some (grand l a b) := by
  have e : ∀ i, impl_isAunt.ps l i = pp l i := fun _ => rfl
  unfold impl_isGrand.f
  rw [if_pos hb, e, if_pos (List.all_eq_true.2 fun p hp => by have := Fam_pp l hf b p hb hp; exact decide_eq_true ⟨by omega, by omega⟩)]
  rfl
theorem faGrand_l (l : List Kn) (a : Int) (L : List Int) (hL : L.length ≤ 1000) (hv : ∀ p ∈ L, 0 ≤ p ∧ p < (l.length : Int)) (n : Nat) : ∀ i : Nat, i ≤ L.length → L.length - i ≤ n → Ev (fun k => spec_faGrand.l0 k l a L (L.length : Int) (i : Int)) ((L.drop i).any fun p => (pp l p).contains a) := by
  have stop : Ev (fun k => spec_faGrand.l0 k l a L (L.length : Int) (L.length : Int)) ((L.drop L.length).any fun p => (pp l p).contains a) := by
    refine Ev.step (f := fun k => _) (fun k => by rw [spec_faGrand.l0]) (ifn (by omega) (evEq now ?_))
    simp
  induction n with
  | zero =>
    intro i h1 h2
    obtain rfl : i = L.length := by omega
    exact stop
  | succ n ih =>
    intro i h1 h2
    by_cases hi : i < L.length
    · refine Ev.step (f := fun k => _) (fun k => by rw [spec_faGrand.l0]) (ifp (by omega) (ifp (by omega) (ifp (by omega) ?_)))
      rw [rdI L i hi, w64 _ (by omega), List.drop_eq_getElem_cons hi, List.any_cons]
      refine Ev.bind (faParentsI l L[i] (hv _ (List.getElem_mem hi))) (Ev.bind (faParent l a L[i]) ?_)
      cases h : (pp l L[i]).contains a with
      | true => exact ifp rfl (evEq now (by simp))
      | false => exact ifn (by simp) (evEq (ih (i + 1) (by omega) (by omega)) (by simp))
    · obtain rfl : i = L.length := by omega
      exact stop
theorem faGrand (l : List Kn) (hf : Fam l) (a b : Int) (hb : 0 ≤ b ∧ b < (l.length : Int)) : Ev (fun k => spec_faGrand.f k l a b) (grand l a b) := by
  unfold spec_faGrand.f
  refine Ev.bind (faParentsI l b hb) ?_
  exact faGrand_l l a (pp l b) (Nat.le_trans (ps_len _) (by decide)) (fun p hp => by have := Fam_pp l hf b p hb hp; omega) _ 0 (by omega) (Nat.le_refl _)
theorem faAunt_l (l : List Kn) (a : Int) (ha : 0 ≤ a ∧ a < (l.length : Int)) (L : List Int) (hL : L.length ≤ 1000) (hv : ∀ p ∈ L, 0 ≤ p ∧ p < (l.length : Int)) (n : Nat) : ∀ i : Nat, i ≤ L.length → L.length - i ≤ n → Ev (fun k => spec_faAunt.l0 k l a L (L.length : Int) (i : Int)) ((L.drop i).any fun p => sib l a p) := by
  have stop : Ev (fun k => spec_faAunt.l0 k l a L (L.length : Int) (L.length : Int)) ((L.drop L.length).any fun p => sib l a p) := by
    refine Ev.step (f := fun k => _) (fun k => by rw [spec_faAunt.l0]) (ifn (by omega) (evEq now ?_))
    simp
  induction n with
  | zero =>
    intro i h1 h2
    obtain rfl : i = L.length := by omega
    exact stop
  | succ n ih =>
    intro i h1 h2
    by_cases hi : i < L.length
    · refine Ev.step (f := fun k => _) (fun k => by rw [spec_faAunt.l0]) (ifp (by omega) (ifp (by omega) (ifp (by omega) ?_)))
      rw [rdI L i hi, w64 _ (by omega), List.drop_eq_getElem_cons hi, List.any_cons]
      refine Ev.bind (faSiblings l a L[i] ha (hv _ (List.getElem_mem hi))) ?_
      cases h : sib l a L[i] with
      | true => exact ifp rfl (evEq now (by simp))
      | false => exact ifn (by simp) (evEq (ih (i + 1) (by omega) (by omega)) (by simp))
    · obtain rfl : i = L.length := by omega
      exact stop
theorem faAunt (l : List Kn) (hf : Fam l) (a b : Int) (ha : 0 ≤ a ∧ a < (l.length : Int)) (hb : 0 ≤ b ∧ b < (l.length : Int)) : Ev (fun k => spec_faAunt.f k l a b) (aunt l a b) := by
  unfold spec_faAunt.f
  refine Ev.bind (faParentsI l b hb) ?_
  exact faAunt_l l a ha (pp l b) (Nat.le_trans (ps_len _) (by decide)) (fun p hp => by have := Fam_pp l hf b p hb hp; omega) _ 0 (by omega) (Nat.le_refl _)
end Go.Proofs.Ytllihaahppelhaa.Pr
namespace Go.Proofs.Ytllihaahppelhaa.Pr
open Go.RowKit Go.Proofs.Ytllihaahppelhaa.P Go.Proofs.YtllihaahppelhaaW.PrintWords Go.Proofs.Ytllihaahppelhaa.E
/-- Two increasing lists of the same numbers are one. -/
theorem inc_ext : ∀ (xs ys : List Int), xs.Pairwise (· < ·) → ys.Pairwise (· < ·) → (∀ x, x ∈ xs ↔ x ∈ ys) → xs = ys
  | [], [], _, _, _ => rfl
  | [], y :: ys, _, _, h => by have := (h y).2 (List.mem_cons_self ..); cases this
  | x :: xs, [], _, _, h => by have := (h x).1 (List.mem_cons_self ..); cases this
  | x :: xs, y :: ys, hx, hy, h => by
    have hx' := List.pairwise_cons.1 hx
    have hy' := List.pairwise_cons.1 hy
    have e : x = y := by
      rcases List.mem_cons.1 ((h x).1 (List.mem_cons_self ..)) with e | e
      · exact e
      · rcases List.mem_cons.1 ((h y).2 (List.mem_cons_self ..)) with e2 | e2
        · exact e2.symm
        · have := hy'.1 x e
          have := hx'.1 y e2
          omega
    subst e
    congr 1
    refine inc_ext xs ys hx'.2 hy'.2 (fun z => ⟨fun hz => ?_, fun hz => ?_⟩)
    · rcases List.mem_cons.1 ((h z).1 (List.mem_cons_of_mem _ hz)) with e | e
      · have := hx'.1 z hz
        omega
      · exact e
    · rcases List.mem_cons.1 ((h z).2 (List.mem_cons_of_mem _ hz)) with e | e
      · have := hy'.1 z hz
        omega
      · exact e
theorem arr_get (xs : List Int) (j : Nat) (h : j < xs.length) : xs.toArray[j]! = xs[j] := by simp [getElem!_pos, h]
theorem cmp_up (xs : List Int) (hs : xs.Pairwise (· ≤ ·)) : ∀ m, m ≤ xs.length → (Lib.compactUpTo xs.toArray m).Pairwise (· < ·) ∧ ∀ x, x ∈ Lib.compactUpTo xs.toArray m ↔ x ∈ xs.take m := by
  intro m
  induction m with
  | zero => intro _; exact ⟨by simp [Lib.compactUpTo], by simp [Lib.compactUpTo]⟩
  | succ m ih =>
    intro hm
    obtain ⟨h1, h2⟩ := ih (by omega)
    have hlt : m < xs.length := by omega
    have ht : xs.take (m + 1) = xs.take m ++ [xs[m]] := List.take_succ_eq_append_getElem hlt
    have hle : ∀ x, x ∈ xs.take m → x ≤ xs[m] := by
      intro x hx
      obtain ⟨i, hi, rfl⟩ := List.mem_iff_getElem.1 hx
      rw [List.length_take] at hi
      rw [List.getElem_take]
      exact List.pairwise_iff_getElem.1 hs i m (by omega) hlt (by omega)
    rw [Lib.compactUpTo_succ]
    cases hk : Lib.keeps xs.toArray m with
    | true =>
      have hlt2 : ∀ x, x ∈ xs.take m → x < xs[m] := by
        intro x hx
        have h3 := hle x hx
        obtain ⟨i, hi, e⟩ := List.mem_iff_getElem.1 hx
        rw [List.length_take] at hi
        have hm0 : m ≠ 0 := by omega
        have hne : xs[m] ≠ xs[m - 1] := by
          unfold Lib.keeps at hk
          rw [arr_get xs m hlt, arr_get xs (m - 1) (by omega)] at hk
          simpa [hm0] using hk
        have h4 : xs[m - 1] ≤ xs[m] := List.pairwise_iff_getElem.1 hs (m - 1) m (by omega) hlt (by omega)
        have h5 : x ≤ xs[m - 1] := by
          rw [← e, List.getElem_take]
          by_cases h6 : i = m - 1
          · subst h6; exact Int.le_refl _
          · exact List.pairwise_iff_getElem.1 hs i (m - 1) (by omega) (by omega) (by omega)
        omega
      rw [if_pos rfl, arr_get xs m hlt, ht]
      refine ⟨List.pairwise_append.2 ⟨h1, by simp, fun a ha b hb => ?_⟩, fun x => ?_⟩
      · rw [List.mem_singleton.1 hb]
        exact hlt2 a ((h2 a).1 ha)
      · rw [List.mem_append, List.mem_append, h2 x]
    | false =>
      rw [if_neg (by simp), List.append_nil, ht]
      refine ⟨h1, fun x => ?_⟩
      rw [List.mem_append, h2 x]
      refine ⟨Or.inl, fun h => ?_⟩
      rcases h with h | h
      · exact h
      · have hm0 : m ≠ 0 := by
          rintro rfl
          simp [Lib.keeps] at hk
        have he : xs[m] = xs[m - 1] := by
          unfold Lib.keeps at hk
          rw [arr_get xs m hlt, arr_get xs (m - 1) (by omega)] at hk
          simpa [hm0] using hk
        rw [List.mem_singleton.1 h, he]
        refine List.mem_iff_getElem.2 ⟨m - 1, by rw [List.length_take]; omega, ?_⟩
        rw [List.getElem_take]
/-- Numbers in order, each once. -/
def dist (xs : List Int) : List Int := Lib.compact (xs.mergeSort fun x y => decide (x ≤ y))
theorem sorted (xs : List Int) : (xs.mergeSort fun x y => decide (x ≤ y)).Pairwise (· ≤ ·) := by
  have h := List.pairwise_mergeSort (le := fun x y : Int => decide (x ≤ y)) (fun a b c h1 h2 => by simp at *; omega) (fun a b => by simp; omega) xs
  exact h.imp (fun h => by simpa using h)
theorem dist_inc (xs : List Int) : (dist xs).Pairwise (· < ·) := (cmp_up _ (sorted xs) _ (Nat.le_of_eq (by simp))).1
theorem dist_mem (xs : List Int) (x : Int) : x ∈ dist xs ↔ x ∈ xs := by
  have h := (cmp_up _ (sorted xs) _ (Nat.le_refl _)).2 x
  unfold dist Lib.compact
  rw [h, List.take_length, List.mem_mergeSort]
/-- All whole numbers below n of which something is so. -/
noncomputable def upTo (n : Nat) (p : Int → Prop) : List Int := ((List.range n).filter fun i : Nat => dec (p (i : Int))).map fun i : Nat => (i : Int)
theorem upTo_mem (n : Nat) (p : Int → Prop) (x : Int) : x ∈ upTo n p ↔ (0 ≤ x ∧ x < (n : Int)) ∧ p x := by
  unfold upTo
  rw [List.mem_map]
  constructor
  · rintro ⟨i, hi, rfl⟩
    have h := List.mem_filter.1 hi
    have h2 := List.mem_range.1 h.1
    exact ⟨by omega, (dec_iff _).1 h.2⟩
  · rintro ⟨h, hp⟩
    refine ⟨x.toNat, List.mem_filter.2 ⟨List.mem_range.2 (by omega), ?_⟩, by omega⟩
    rw [show ((x.toNat : Nat) : Int) = x by omega]
    exact dec_pos hp
theorem upTo_inc (n : Nat) (p : Int → Prop) : (upTo n p).Pairwise (· < ·) := by
  unfold upTo
  refine List.Pairwise.map _ (fun a b h => ?_) ((List.pairwise_lt_range (n := n)).filter _)
  exact Int.ofNat_lt.2 h
theorem upTo_len (n : Nat) (p : Int → Prop) : (upTo n p).length ≤ n := by
  unfold upTo
  rw [List.length_map]
  exact Nat.le_trans (List.length_filter_le _ _) (by simp)
theorem upTo_eq (n : Nat) (p : Int → Prop) (xs : List Int) (hi : xs.Pairwise (· < ·)) (h : ∀ x, x ∈ xs ↔ (0 ≤ x ∧ x < (n : Int)) ∧ p x) : xs = upTo n p :=
  inc_ext _ _ hi (upTo_inc n p) (fun x => (h x).trans (upTo_mem n p x).symm)
/-- x is an ancestor of y. -/
inductive Anc (l : List Kn) : Int → Int → Prop
  | one {x y : Int} (h : x ∈ pp l y) : Anc l x y
  | more {x y z : Int} (h : x ∈ pp l y) (k : Anc l y z) : Anc l x z
theorem Anc_lt (l : List Kn) (hf : Fam l) (x y : Int) (h : Anc l x y) (hy : 0 ≤ y ∧ y < (l.length : Int)) : 0 ≤ x ∧ x < y := by
  induction h with
  | one h => exact Fam_pp l hf _ _ hy h
  | more h k ih =>
    have h1 := ih hy
    have h2 := Fam_pp l hf _ _ (by omega) h
    omega
theorem Anc_by (l : List Kn) (x z : Int) : Anc l x z ↔ ∃ p, p ∈ pp l z ∧ (x = p ∨ Anc l x p) := by
  constructor
  · intro h
    induction h with
    | one h => exact ⟨_, h, .inl rfl⟩
    | more h k ih =>
      obtain ⟨p, hp, h1⟩ := ih
      refine ⟨p, hp, .inr ?_⟩
      rcases h1 with rfl | h1
      · exact .one h
      · exact .more h h1
  · rintro ⟨p, hp, rfl | h⟩
    · exact .one hp
    · induction h with
      | one h => exact .more h (.one hp)
      | more h k ih => exact .more h (ih hp)
theorem Anc_up (l : List Kn) (x z : Int) : Anc l x z ↔ ∃ y, (y = z ∨ Anc l y z) ∧ x ∈ pp l y := by
  constructor
  · intro h
    cases h with
    | one h => exact ⟨_, .inl rfl, h⟩
    | more h k => exact ⟨_, .inr k, h⟩
  · rintro ⟨y, rfl | h, hx⟩
    · exact .one hx
    · exact .more hx h
noncomputable def ancs (l : List Kn) (i : Int) : List Int := upTo l.length fun j => Anc l j i
end Go.Proofs.Ytllihaahppelhaa.Pr
namespace Go.Proofs.Ytllihaahppelhaa.Pr
open Go.RowKit Go.Proofs.Ytllihaahppelhaa.P Go.Proofs.YtllihaahppelhaaW.PrintWords Go.Proofs.Ytllihaahppelhaa.E
theorem rdB (l : List Bool) (i : Nat) (h : i < l.length) : rdOf false l (i : Int) = l[i] := by simp [rdOf, List.getD_eq_getElem?_getD, List.getElem?_eq_getElem h]
theorem rdB_set_same (out : List Bool) (k : Int) (v : Bool) (h : 0 ≤ k ∧ k < (out.length : Int)) : rdOf false (out.set k.toNat v) k = v := by
  unfold rdOf
  rw [List.getD_eq_getElem?_getD, List.getElem?_set_self (by omega)]
  rfl
theorem rdB_set_ne (out : List Bool) (k x : Int) (v : Bool) (h : 0 ≤ k ∧ 0 ≤ x ∧ x ≠ k) : rdOf false (out.set k.toNat v) x = rdOf false out x := by
  unfold rdOf
  rw [List.getD_eq_getElem?_getD, List.getElem?_set_ne (by omega), List.getD_eq_getElem?_getD]
def setAll (out : List Bool) (L : List Int) : List Bool := L.foldl (fun o p => o.set p.toNat true) out
theorem setAll_len (L : List Int) : ∀ out, (setAll out L).length = out.length := by
  induction L with
  | nil => intro out; rfl
  | cons p L ih => intro out; rw [setAll, List.foldl_cons]; exact (ih _).trans (List.length_set ..)
theorem setAll_at (L : List Int) : ∀ (out : List Bool) (x : Int), (∀ p ∈ L, 0 ≤ p ∧ p < (out.length : Int)) → 0 ≤ x → (rdOf false (setAll out L) x = true ↔ rdOf false out x = true ∨ x ∈ L) := by
  induction L with
  | nil => intro out x _ _; simp [setAll]
  | cons p L ih =>
    intro out x hL hx
    have hp := hL p (List.mem_cons_self ..)
    rw [setAll, List.foldl_cons]
    refine (ih (out.set p.toNat true) x (fun q hq => by rw [List.length_set]; exact hL q (List.mem_cons_of_mem _ hq)) hx).trans ?_
    rw [List.mem_cons]
    by_cases e : x = p
    · subst e
      rw [rdB_set_same _ _ _ hp]
      simp
    · rw [rdB_set_ne _ _ _ _ ⟨hp.1, hx, e⟩]
      simp [e]
/-- The table. -/
noncomputable def above (l : List Kn) (who : Int) : List Bool := (List.range l.length).map fun i : Nat => dec (Anc l (i : Int) who)
theorem above_len (l : List Kn) (who : Int) : (above l who).length = l.length := by simp [above]
theorem above_at (l : List Kn) (who x : Int) (h : 0 ≤ x ∧ x < (l.length : Int)) : rdOf false (above l who) x = dec (Anc l x who) := by
  obtain ⟨m, rfl⟩ := Int.eq_ofNat_of_zero_le h.1
  rw [rdB _ m (by rw [above_len]; omega)]
  simp [above]
/-- Those above x have been gone through. -/
def AbInv (l : List Kn) (who : Int) (out : List Bool) (x : Int) : Prop := out.length = l.length ∧ ∀ p, 0 ≤ p → p < (l.length : Int) → (rdOf false out p = true ↔ ∃ y, x < y ∧ (y = who ∨ Anc l y who) ∧ p ∈ pp l y)
theorem AbInv_end (l : List Kn) (hf : Fam l) (who : Int) (hw : 0 ≤ who ∧ who < (l.length : Int)) (out : List Bool) (h : AbInv l who out (-1)) : out = above l who := by
  apply List.ext_getElem
  · rw [h.1, above_len]
  · intro i h1 h2
    have hi : i < l.length := by rw [h.1] at h1; exact h1
    have h3 := h.2 (i : Int) (by omega) (by omega)
    rw [rdB _ i h1] at h3
    rw [show (above l who)[i] = dec (Anc l (i : Int) who) by simp [above], Bool.eq_iff_iff, h3, dec_iff]
    constructor
    · rintro ⟨y, _, h5, h6⟩; exact (Anc_up l _ _).2 ⟨y, h5, h6⟩
    · intro h4
      obtain ⟨y, h5, h6⟩ := (Anc_up l _ _).1 h4
      refine ⟨y, ?_, h5, h6⟩
      rcases h5 with rfl | h5
      · omega
      · have := Anc_lt l hf _ _ h5 hw; omega
theorem faAbove_l1 (l : List Kn) (who x : Int) (r : List Bool) (L : List Int) (hL : L.length ≤ 1000) (n : Nat) : ∀ (j : Nat) (out : List Bool), j ≤ L.length → L.length - j ≤ n → (∀ p ∈ L, 0 ≤ p ∧ p < (out.length : Int)) →
    Ev (fun k => spec_faAbove.l0 k l who (setAll out (L.drop j)) (wrap64 (x - 1))) r → Ev (fun k => spec_faAbove.l1 k l who out x L (L.length : Int) (j : Int)) r := by
  have stop : ∀ out : List Bool, Ev (fun k => spec_faAbove.l0 k l who (setAll out (L.drop L.length)) (wrap64 (x - 1))) r → Ev (fun k => spec_faAbove.l1 k l who out x L (L.length : Int) (L.length : Int)) r := by
    intro out hr
    refine Ev.step (f := fun k => _) (fun k => by rw [spec_faAbove.l1]) (ifn (by omega) ?_)
    rw [List.drop_length] at hr
    exact hr
  induction n with
  | zero =>
    intro j out h1 h2 _ hr
    obtain rfl : j = L.length := by omega
    exact stop out hr
  | succ n ih =>
    intro j out h1 h2 hv hr
    by_cases hj : j < L.length
    · have hp := hv L[j] (List.getElem_mem hj)
      refine Ev.step (f := fun k => _) (fun k => by rw [spec_faAbove.l1]) (ifp (by omega) (ifp (by omega) (ifp (by omega) ?_)))
      rw [rdI L j hj, w64 _ (by omega)]
      refine ifp hp.1 (ifp hp.2 (ih (j + 1) _ (by omega) (by omega) (fun p hq => by rw [List.length_set]; exact hv p hq) ?_))
      rw [List.drop_eq_getElem_cons hj] at hr
      exact hr
    · obtain rfl : j = L.length := by omega
      exact stop out hr
theorem faAbove_l (l : List Kn) (hf : Fam l) (who : Int) (hw : 0 ≤ who ∧ who < (l.length : Int)) (n : Nat) : ∀ (x : Int) (out : List Bool), -1 ≤ x → x ≤ who → x + 1 ≤ (n : Int) → AbInv l who out x → Ev (fun k => spec_faAbove.l0 k l who out x) (above l who) := by
  have h14 := hf.1.2
  have stop : ∀ out : List Bool, AbInv l who out (-1) → Ev (fun k => spec_faAbove.l0 k l who out (-1)) (above l who) := by
    intro out h
    refine Ev.step (f := fun k => _) (fun k => by rw [spec_faAbove.l0]) (ifn (by omega) (evEq now (AbInv_end l hf who hw out h)))
  induction n with
  | zero =>
    intro x out h1 h2 h3 h
    obtain rfl : x = -1 := by omega
    exact stop out h
  | succ n ih =>
    intro x out h1 h2 h3 h
    by_cases hx : 0 ≤ x
    · have hxl : x < (l.length : Int) := by omega
      have yes : (x = who ∨ Anc l x who) → Ev (fun k => spec_faAbove.j1 k l who out x true) (above l who) := by
        intro hy
        refine Ev.step (f := fun k => _) (fun k => by rw [spec_faAbove.j1]) (ifp rfl (Ev.bind (faParentsI l x ⟨hx, hxl⟩) ?_))
        have hv : ∀ p ∈ pp l x, 0 ≤ p ∧ p < (out.length : Int) := fun p hp => by
          have := Fam_pp l hf x p ⟨hx, hxl⟩ hp
          rw [h.1]; omega
        refine faAbove_l1 l who x _ (pp l x) (Nat.le_trans (ps_len _) (by decide)) _ 0 out (by omega) (Nat.le_refl _) hv ?_
        rw [w64 _ (by omega), List.drop_zero]
        refine ih (x - 1) _ (by omega) (by omega) (by omega) ⟨by rw [setAll_len]; exact h.1, fun p h0 hl => ?_⟩
        rw [setAll_at _ out p hv h0, h.2 p h0 hl]
        constructor
        · rintro (⟨y, h5, h6⟩ | h5)
          · exact ⟨y, by omega, h6⟩
          · exact ⟨x, by omega, hy, h5⟩
        · rintro ⟨y, h5, h6, h7⟩
          by_cases e : y = x
          · subst e; exact .inr h7
          · exact .inl ⟨y, by omega, h6, h7⟩
      refine Ev.step (f := fun k => _) (fun k => by rw [spec_faAbove.l0]) (ifp hx ?_)
      by_cases e : x = who
      · exact ifp e (yes (.inl e))
      · refine ifn e (ifp hx (ifp (by rw [h.1]; exact hxl) ?_))
        have h4 := h.2 x hx hxl
        cases hb : rdOf false out x with
        | true =>
          rw [hb] at h4
          obtain ⟨y, _, h5, h6⟩ := h4.1 rfl
          exact yes (.inr ((Anc_up l _ _).2 ⟨y, h5, h6⟩))
        | false =>
          refine Ev.step (f := fun k => _) (fun k => by rw [spec_faAbove.j1]) (ifn (by simp) ?_)
          rw [w64 _ (by omega)]
          refine ih (x - 1) out (by omega) (by omega) (by omega) ⟨h.1, fun p h0 hl => (h.2 p h0 hl).trans ⟨?_, ?_⟩⟩
          · rintro ⟨y, h5, h6⟩; exact ⟨y, by omega, h6⟩
          · rintro ⟨y, h5, h6, h7⟩
            by_cases e2 : y = x
            · subst e2
              rcases h6 with h6 | h6
              · exact absurd h6 e
              · obtain ⟨z, h8, h9⟩ := (Anc_up l _ _).1 h6
                have hz : 0 ≤ z ∧ z < (l.length : Int) := by
                  rcases h8 with rfl | h8
                  · exact hw
                  · have := Anc_lt l hf _ _ h8 hw; omega
                have := Fam_pp l hf z _ hz h9
                rw [hb] at h4
                exact absurd (h4.2 ⟨z, by omega, h8, h9⟩) (by simp)
            · exact ⟨y, by omega, h6, h7⟩
    · obtain rfl : x = -1 := by omega
      exact stop out h
theorem faAbove (l : List Kn) (hf : Fam l) (who : Int) (hw : 0 ≤ who ∧ who < (l.length : Int)) : Ev (fun k => spec_faAbove.f k l who) (above l who) := by
  have h14 := hf.1.2
  unfold spec_faAbove.f
  refine ifp (by omega) (ifp (by omega) ?_)
  refine faAbove_l l hf who hw (who.toNat + 1) who _ (by omega) (Int.le_refl _) (by omega) ⟨by simp, fun p h0 hl => ?_⟩
  have e : rdOf false (List.replicate ((l.length : Int) : Int).toNat false) p = false := by
    unfold rdOf
    rw [List.getD_eq_getElem?_getD, List.getElem?_replicate]
    split <;> rfl
  rw [e]
  constructor
  · intro h; cases h
  · rintro ⟨y, h5, h6, _⟩
    rcases h6 with rfl | h6
    · omega
    · have := Anc_lt l hf _ _ h6 hw; omega
/-- The list out of a table. -/
def listOf (B : List Bool) (n : Nat) : List Int := ((List.range n).filter fun i : Nat => rdOf false B (i : Int)).map fun i : Nat => (i : Int)
theorem listOf_len (B : List Bool) (n : Nat) : (listOf B n).length ≤ n := by
  unfold listOf
  rw [List.length_map]
  exact Nat.le_trans (List.length_filter_le _ _) (by simp)
theorem faList_l (B : List Bool) (hl : B.length ≤ 1073741824) (n : Nat) : ∀ i : Nat, i ≤ B.length → B.length - i ≤ n → Ev (fun k => spec_faList.l0 k (listOf B i) B (B.length : Int) (i : Int)) (listOf B B.length) := by
  have stop : Ev (fun k => spec_faList.l0 k (listOf B B.length) B (B.length : Int) (B.length : Int)) (listOf B B.length) :=
    Ev.step (f := fun k => _) (fun k => by rw [spec_faList.l0]) (ifn (by omega) now)
  induction n with
  | zero =>
    intro i h1 h2
    obtain rfl : i = B.length := by omega
    exact stop
  | succ n ih =>
    intro i h1 h2
    by_cases hi : i < B.length
    · have hk := listOf_len B i
      have hn := ih (i + 1) (by omega) (by omega)
      refine Ev.step (f := fun k => _) (fun k => by rw [spec_faList.l0]) (ifp (by omega) (ifp (by omega) (ifp (by omega) ?_)))
      rw [w64 _ (by omega)]
      cases h : rdOf false B (i : Int) with
      | true =>
        refine ifp rfl (ifp (by omega) ?_)
        rw [show listOf B (i + 1) = listOf B i ++ [(i : Int)] by simp [listOf, List.range_succ, h]] at hn
        exact hn
      | false =>
        refine ifn (by simp) ?_
        rw [show listOf B (i + 1) = listOf B i by simp [listOf, List.range_succ, h]] at hn
        exact hn
    · obtain rfl : i = B.length := by omega
      exact stop
theorem faList (B : List Bool) (hl : B.length ≤ 1073741824) : Ev (fun k => spec_faList.f k B) (listOf B B.length) := faList_l B hl _ 0 (by omega) (Nat.le_refl _)
theorem listOf_above (l : List Kn) (who : Int) : listOf (above l who) (above l who).length = ancs l who := by
  rw [above_len]
  unfold listOf ancs upTo
  congr 1
  refine List.filter_congr (fun i hi => ?_)
  rw [above_at l who _ ⟨by omega, by have := List.mem_range.1 hi; omega⟩]
theorem faAncs (l : List Kn) (hf : Fam l) (who : Int) : Ev (fun k => spec_faList.f k (above l who)) (ancs l who) := by
  have h := faList (above l who) (by rw [above_len]; have := hf.1.2; omega)
  rw [listOf_above] at h
  exact h
end Go.Proofs.Ytllihaahppelhaa.Pr
namespace Go.Proofs.Ytllihaahppelhaa.Pr
open Go.RowKit Go.Proofs.Ytllihaahppelhaa.P Go.Proofs.YtllihaahppelhaaW.PrintWords Go.Proofs.Ytllihaahppelhaa.E
theorem distinct_f (L : List Int) (h : L.length ≤ 1073741824) : impl_distinct.f L = some (dist L) := by
  unfold impl_distinct.f
  rw [if_pos (by omega)]
  rfl
theorem ancs_len (l : List Kn) (i : Int) : (ancs l i).length ≤ l.length := upTo_len _ _
theorem ancestors_l (l : List Kn) (hf : Fam l) (i : Int) (ih : ∀ p : Int, 0 ≤ p ∧ p < i → Ev (fun k => impl_ancestors.f k l p) (ancs l p)) (L : List Int) (hL : L.length ≤ 1000) (hv : ∀ p ∈ L, 0 ≤ p ∧ p < i)
    (n : Nat) : ∀ (j : Nat) (acc : List Int), j ≤ L.length → L.length - j ≤ n → acc.length ≤ 15 * j → Ev (fun k => impl_ancestors.l0 k l acc L (L.length : Int) (j : Int)) (dist (acc ++ (L.drop j).flatMap fun p => p :: ancs l p)) := by
  have h14 := hf.1.2
  have stop : ∀ acc : List Int, acc.length ≤ 15 * L.length → Ev (fun k => impl_ancestors.l0 k l acc L (L.length : Int) (L.length : Int)) (dist (acc ++ (L.drop L.length).flatMap fun p => p :: ancs l p)) := by
    intro acc ha
    refine Ev.step (f := fun k => _) (fun k => by rw [impl_ancestors.l0]) (ifn (by omega) (call (distinct_f acc (by omega)) (evEq now ?_)))
    simp
  induction n with
  | zero =>
    intro j acc h1 h2 ha
    obtain rfl : j = L.length := by omega
    exact stop acc ha
  | succ n ih2 =>
    intro j acc h1 h2 ha
    by_cases hj : j < L.length
    · have hp := hv L[j] (List.getElem_mem hj)
      have hal := ancs_len l L[j]
      refine Ev.step (f := fun k => _) (fun k => by rw [impl_ancestors.l0]) (ifp (by omega) (ifp (by omega) (ifp (by omega) (ifp (by omega) ?_))))
      rw [rdI L j hj, w64 _ (by omega)]
      refine call (b := acc ++ [L[j]]) rfl (Ev.bind (ih L[j] hp) (ifp (by rw [List.length_append, List.length_singleton]; omega) (evEq (ih2 (j + 1) _ (by omega) (by omega) (by rw [List.length_append, List.length_append, List.length_singleton]; omega)) ?_)))
      rw [List.drop_eq_getElem_cons hj, List.flatMap_cons]
      simp
    · obtain rfl : j = L.length := by omega
      exact stop acc ha
theorem ancestors_n (l : List Kn) (hf : Fam l) (n : Nat) : ∀ i : Int, 0 ≤ i → i < (n : Int) → i < (l.length : Int) → Ev (fun k => impl_ancestors.f k l i) (ancs l i) := by
  induction n with
  | zero => intro i h0 h; omega
  | succ n ih =>
    intro i h0 h hi
    refine Ev.step (f := fun k => _) (fun k => by rw [impl_ancestors.f]) (ifp h0 (ifp hi ?_))
    refine call (parents_f (rdK l i)) ?_
    have h1 := ancestors_l l hf i (fun p hp => ih p hp.1 (by omega) (by omega)) (pp l i) (Nat.le_trans (ps_len _) (by decide)) (fun p hp => Fam_pp l hf i p ⟨h0, hi⟩ hp) _ 0 [] (by omega) (Nat.le_refl _) (by simp)
    refine evEq h1 ?_
    rw [List.nil_append, List.drop_zero]
    refine upTo_eq _ _ _ (dist_inc _) (fun x => ?_)
    rw [dist_mem, List.mem_flatMap]
    constructor
    · rintro ⟨p, hp, hx⟩
      have h2 := Fam_pp l hf i p ⟨h0, hi⟩ hp
      rcases List.mem_cons.1 hx with rfl | hx
      · exact ⟨by omega, (Anc_by l _ _).2 ⟨_, hp, .inl rfl⟩⟩
      · obtain ⟨h3, h4⟩ := (upTo_mem _ _ _).1 hx
        exact ⟨h3, (Anc_by l _ _).2 ⟨p, hp, .inr h4⟩⟩
    · rintro ⟨h2, h3⟩
      obtain ⟨p, hp, hx⟩ := (Anc_by l _ _).1 h3
      refine ⟨p, hp, ?_⟩
      rcases hx with rfl | hx
      · exact List.mem_cons_self ..
      · exact List.mem_cons_of_mem _ ((upTo_mem _ _ _).2 ⟨h2, hx⟩)
theorem ancestors (l : List Kn) (hf : Fam l) (i : Int) (h : 0 ≤ i ∧ i < (l.length : Int)) : Ev (fun k => impl_ancestors.f k l i) (ancs l i) := ancestors_n l hf (i.toNat + 1) i h.1 (by omega) h.2
end Go.Proofs.Ytllihaahppelhaa.Pr
namespace Go.Proofs.Ytllihaahppelhaa.Pr
open Go.RowKit Go.Proofs.Ytllihaahppelhaa.P Go.Proofs.YtllihaahppelhaaW.PrintWords Go.Proofs.Ytllihaahppelhaa.E
/-- All who are ancestors of both. -/
noncomputable def comms (l : List Kn) (a b : Int) : List Int := upTo l.length fun j => Anc l j a ∧ Anc l j b
theorem comms_len (l : List Kn) (a b : Int) : (comms l a b).length ≤ l.length := upTo_len _ _
theorem commonAncestors (l : List Kn) (hf : Fam l) (a b : Int) (ha : 0 ≤ a ∧ a < (l.length : Int)) (hb : 0 ≤ b ∧ b < (l.length : Int)) : Ev (fun k => impl_commonAncestors.f k l a b) (comms l a b) := by
  have h14 := hf.1.2
  have hal := ancs_len l a
  unfold impl_commonAncestors.f
  refine Ev.bind (ancestors l hf a ha) (Ev.bind (ancestors l hf b hb) (call (b := (ancs l a).filter fun x => (ancs l b).contains x) ?_ (evEq now ?_)))
  · unfold impl_common.f
    rw [if_pos (by omega)]
  · refine upTo_eq _ _ _ ((upTo_inc _ _).filter _) (fun x => ?_)
    rw [List.mem_filter, List.contains_iff_mem]
    show x ∈ upTo _ _ ∧ x ∈ upTo _ _ ↔ _
    rw [upTo_mem, upTo_mem]
    exact ⟨fun h => ⟨h.1.1, h.1.2, h.2.2⟩, fun h => ⟨⟨h.1, h.2.1⟩, h.1, h.2.2⟩⟩
/-- The first i places of both tables are told together. -/
def both (A B : List Bool) (i : Nat) : List Bool := (List.range A.length).map fun j : Nat => if j < i then rdOf false A (j : Int) && rdOf false B (j : Int) else rdOf false A (j : Int)
theorem both_len (A B : List Bool) (i : Nat) : (both A B i).length = A.length := by simp [both]
theorem both_at (A B : List Bool) (i j : Nat) (h : j < A.length) : rdOf false (both A B i) (j : Int) = if j < i then rdOf false A (j : Int) && rdOf false B (j : Int) else rdOf false A (j : Int) := by
  rw [rdB _ j (by rw [both_len]; exact h)]
  simp [both]
theorem both_set (A B : List Bool) (i : Nat) (_h : i < A.length) (v : Bool) (hv : v = (rdOf false A (i : Int) && rdOf false B (i : Int))) : (both A B i).set i v = both A B (i + 1) := by
  apply List.ext_getElem
  · rw [List.length_set, both_len, both_len]
  · intro j h1 h2
    rw [both_len] at h2
    rw [List.getElem_set]
    simp only [both, List.getElem_map, List.getElem_range]
    by_cases e : i = j
    · subst e
      rw [if_pos rfl, if_pos (by omega), hv]
    · rw [if_neg e]
      by_cases h3 : j < i
      · rw [if_pos h3, if_pos (by omega)]
      · rw [if_neg h3, if_neg (by omega)]
theorem faCommon_l (A B : List Bool) (hAB : A.length = B.length) (hl : A.length ≤ 1073741824) (n : Nat) : ∀ i : Nat, i ≤ A.length → A.length - i ≤ n → Ev (fun k => spec_faCommon.l0 k (both A B i) B (A.length : Int) (i : Int)) (listOf (both A B A.length) A.length) := by
  have stop : Ev (fun k => spec_faCommon.l0 k (both A B A.length) B (A.length : Int) (A.length : Int)) (listOf (both A B A.length) A.length) := by
    have h := faList (both A B A.length) (by rw [both_len]; exact hl)
    rw [both_len] at h
    exact Ev.step (f := fun k => _) (fun k => by rw [spec_faCommon.l0]) (ifn (by omega) (Ev.bind h now))
  induction n with
  | zero =>
    intro i h1 h2
    obtain rfl : i = A.length := by omega
    exact stop
  | succ n ih =>
    intro i h1 h2
    by_cases hi : i < A.length
    · have hn := ih (i + 1) (by omega) (by omega)
      refine Ev.step (f := fun k => _) (fun k => by rw [spec_faCommon.l0]) (ifp (by omega) (ifp (by omega) (ifp (by rw [both_len]; omega) ?_)))
      rw [both_at A B i i hi, if_neg (by omega), w64 _ (by omega), Int.toNat_natCast]
      cases h : rdOf false A (i : Int) with
      | true =>
        refine ifp rfl (ifp (by omega) ?_)
        rw [both_set A B i hi _ (by rw [h]; rfl)]
        exact hn
      | false =>
        refine ifn (by simp) ?_
        rw [both_set A B i hi _ (by rw [h]; rfl)]
        exact hn
    · obtain rfl : i = A.length := by omega
      exact stop
theorem faCommon (l : List Kn) (hf : Fam l) (a b : Int) (ha : 0 ≤ a ∧ a < (l.length : Int)) (hb : 0 ≤ b ∧ b < (l.length : Int)) : Ev (fun k => spec_faCommon.f k l a b) (comms l a b) := by
  have h14 := hf.1.2
  unfold spec_faCommon.f
  refine Ev.bind (faAbove l hf a ha) (Ev.bind (faAbove l hf b hb) ?_)
  have h := faCommon_l (above l a) (above l b) (by rw [above_len, above_len]) (by rw [above_len]; omega) _ 0 (by omega) (Nat.le_refl _)
  have e0 : both (above l a) (above l b) 0 = above l a := by
    apply List.ext_getElem
    · exact both_len _ _ _
    · intro j h1 h2
      simp only [both, List.getElem_map, List.getElem_range, Nat.not_lt_zero, if_false]
      exact rdB _ j h2
  rw [e0] at h
  refine evEq h ?_
  rw [above_len]
  unfold listOf comms upTo
  congr 1
  refine List.filter_congr (fun i hi => ?_)
  have hi := List.mem_range.1 hi
  rw [both_at _ _ _ i (by rw [above_len]; exact hi), if_pos hi, above_at l a _ ⟨by omega, by omega⟩, above_at l b _ ⟨by omega, by omega⟩, Bool.eq_iff_iff, Bool.and_eq_true, dec_iff, dec_iff, dec_iff]
end Go.Proofs.Ytllihaahppelhaa.Pr
namespace Go.Proofs.Ytllihaahppelhaa.Pr
open Go.RowKit Go.Proofs.Ytllihaahppelhaa.P Go.Proofs.YtllihaahppelhaaW.PrintWords Go.Proofs.Ytllihaahppelhaa.E
theorem allIn1 (l : List Kn) (a : Int) : (good l && ([a] : List Int).all (inR l)) = (good l && inR l a) := by simp
theorem allIn2 (l : List Kn) (a b : Int) : (good l && ([a, b] : List Int).all (inR l)) = (good l && (inR l a && inR l b)) := by simp
theorem one_iff (l : List Kn) (a : Int) : (good l && inR l a) = true ↔ Fam l ∧ 0 ≤ a ∧ a < (l.length : Int) := by rw [Bool.and_eq_true, good_iff, inR_iff]
theorem two_iff (l : List Kn) (a b : Int) : (good l && (inR l a && inR l b)) = true ↔ Fam l ∧ (0 ≤ a ∧ a < (l.length : Int)) ∧ 0 ≤ b ∧ b < (l.length : Int) := by rw [Bool.and_eq_true, Bool.and_eq_true, good_iff, inR_iff, inR_iff]
end Go.Proofs.Ytllihaahppelhaa.Pr
namespace Go.Proofs.Ytllihaahppelhaa.Pr
open Go.RowKit Go.Proofs.Ytllihaahppelhaa.P Go.Proofs.YtllihaahppelhaaW.PrintWords Go.Proofs.Ytllihaahppelhaa.E
/-- Which of the tests of a relation is the first that holds. -/
noncomputable def relNo (l : List Kn) (a b : Int) : Nat :=
  if a = b then 0 else if (pp l b).contains a = true then 1 else if (pp l a).contains b = true then 2 else if sib l a b = true then 3 else if grand l a b = true then 4 else if grand l b a = true then 5 else
  if aunt l a b = true then 6 else if aunt l b a = true then 7 else if cous l a b = true then 8 else if dec (Anc l a b) = true then 9 else if dec (Anc l b a) = true then 10 else if ((comms l a b).length : Int) > 0 then 11 else 12
def relText : Nat → ByteArray
  | 0 => ⟨#[115, 101, 108, 102]⟩
  | 1 => ⟨#[112, 97, 114, 101, 110, 116]⟩
  | 2 => ⟨#[99, 104, 105, 108, 100]⟩
  | 3 => ⟨#[115, 105, 98, 108, 105, 110, 103]⟩
  | 4 => ⟨#[103, 114, 97, 110, 100, 112, 97, 114, 101, 110, 116]⟩
  | 5 => ⟨#[103, 114, 97, 110, 100, 99, 104, 105, 108, 100]⟩
  | 6 => ⟨#[97, 117, 110, 116]⟩
  | 7 => ⟨#[110, 105, 101, 99, 101]⟩
  | 8 => ⟨#[99, 111, 117, 115, 105, 110]⟩
  | 9 => ⟨#[97, 110, 99, 101, 115, 116, 111, 114]⟩
  | 10 => ⟨#[100, 101, 115, 99, 101, 110, 100, 97, 110, 116]⟩
  | 11 => ⟨#[107, 105, 110]⟩
  | _ => ⟨#[110, 111, 110, 101]⟩
noncomputable def vRel (l : List Kn) (a b : Int) : ByteArray × Bool := if (good l && (inR l a && inR l b)) = true then (relText (relNo l a b), true) else (⟨#[]⟩, false)
theorem faRelation (l : List Kn) (hf : Fam l) (a b : Int) (ha : 0 ≤ a ∧ a < (l.length : Int)) (hb : 0 ≤ b ∧ b < (l.length : Int)) : Ev (fun k => spec_faRelation.f k l a b) (relText (relNo l a b)) := by
  unfold spec_faRelation.f relNo
  by_cases h0 : a = b
  · rw [if_pos h0]; exact ifp h0 now
  rw [if_neg h0]; refine ifn h0 (Ev.bind (faParentsI l b hb) (Ev.bind (faParent l a b) ?_))
  by_cases h1 : (pp l b).contains a = true
  · rw [if_pos h1]; exact ifp h1 now
  rw [if_neg h1]; refine ifn h1 (Ev.bind (faParentsI l a ha) (Ev.bind (faParent l b a) ?_))
  by_cases h2 : (pp l a).contains b = true
  · rw [if_pos h2]; exact ifp h2 now
  rw [if_neg h2]; refine ifn h2 (Ev.bind (faSiblings l a b ha hb) ?_)
  by_cases h3 : sib l a b = true
  · rw [if_pos h3]; exact ifp h3 now
  rw [if_neg h3]; refine ifn h3 (Ev.bind (faGrand l hf a b hb) ?_)
  by_cases h4 : grand l a b = true
  · rw [if_pos h4]; exact ifp h4 now
  rw [if_neg h4]; refine ifn h4 (Ev.bind (faGrand l hf b a ha) ?_)
  by_cases h5 : grand l b a = true
  · rw [if_pos h5]; exact ifp h5 now
  rw [if_neg h5]; refine ifn h5 (Ev.bind (faAunt l hf a b ha hb) ?_)
  by_cases h6 : aunt l a b = true
  · rw [if_pos h6]; exact ifp h6 now
  rw [if_neg h6]; refine ifn h6 (Ev.bind (faAunt l hf b a hb ha) ?_)
  by_cases h7 : aunt l b a = true
  · rw [if_pos h7]; exact ifp h7 now
  rw [if_neg h7]; refine ifn h7 (Ev.bind (faCousins l hf a b ha hb) ?_)
  by_cases h8 : cous l a b = true
  · rw [if_pos h8]; exact ifp h8 now
  rw [if_neg h8]; refine ifn h8 (Ev.bind (faAbove l hf b hb) (ifp ha.1 (ifp (by rw [above_len]; exact ha.2) ?_)))
  rw [above_at l b a ha]
  by_cases h9 : dec (Anc l a b) = true
  · rw [if_pos h9]; exact ifp h9 now
  rw [if_neg h9]; refine ifn h9 (Ev.bind (faAbove l hf a ha) (ifp hb.1 (ifp (by rw [above_len]; exact hb.2) ?_)))
  rw [above_at l a b hb]
  by_cases h10 : dec (Anc l b a) = true
  · rw [if_pos h10]; exact ifp h10 now
  rw [if_neg h10]; refine ifn h10 (Ev.bind (faCommon l hf a b ha hb) ?_)
  by_cases h11 : ((comms l a b).length : Int) > 0
  · exact evEq (ifp h11 now) (by rw [if_pos h11]; rfl)
  exact evEq (ifn h11 now) (by rw [if_neg h11]; rfl)
theorem spec_Rel (l : List Kn) (hl : l.length ≤ 1073741824) (a b : Int) : Ev (fun k => spec_RelationOf.f k l a b) (vRel l a b) := by
  unfold spec_RelationOf.f vRel
  refine Ev.bind (faTwo l hl a b) ?_
  by_cases h : (good l && (inR l a && inR l b)) = true
  · obtain ⟨hf, ha, hb⟩ := (two_iff l a b).1 h
    rw [h]
    exact ifp rfl (Ev.bind (faRelation l hf a b ha hb) now)
  · rw [if_neg h]
    exact ifn h now
theorem ancs_hasD (l : List Kn) (i a : Int) (ha : 0 ≤ a ∧ a < (l.length : Int)) : (ancs l i).contains a = dec (Anc l a i) := by
  rw [Bool.eq_iff_iff, List.contains_iff_mem, dec_iff]
  exact (upTo_mem _ _ _).trans ⟨fun h => h.2, fun h => ⟨ha, h⟩⟩
theorem txt_rel (l : List Kn) (a b : Int) : impl_RelationOf.txt (a == b) ((pp l b).contains a) ((pp l a).contains b) (sib l a b) (grand l a b) (grand l b a) (aunt l a b) (aunt l b a) (cous l a b) (dec (Anc l a b)) (dec (Anc l b a)) (decide (0 < (comms l a b).length)) = relText (relNo l a b) := by
  unfold impl_RelationOf.txt relNo
  by_cases h0 : a = b
  · rw [if_pos h0, if_pos (beq_iff_eq.2 h0)]; rfl
  rw [if_neg h0, if_neg (by simpa using h0)]
  by_cases h1 : (pp l b).contains a = true
  · rw [if_pos h1, if_pos h1]; rfl
  rw [if_neg h1, if_neg h1]
  by_cases h2 : (pp l a).contains b = true
  · rw [if_pos h2, if_pos h2]; rfl
  rw [if_neg h2, if_neg h2]
  by_cases h3 : sib l a b = true
  · rw [if_pos h3, if_pos h3]; rfl
  rw [if_neg h3, if_neg h3]
  by_cases h4 : grand l a b = true
  · rw [if_pos h4, if_pos h4]; rfl
  rw [if_neg h4, if_neg h4]
  by_cases h5 : grand l b a = true
  · rw [if_pos h5, if_pos h5]; rfl
  rw [if_neg h5, if_neg h5]
  by_cases h6 : aunt l a b = true
  · rw [if_pos h6, if_pos h6]; rfl
  rw [if_neg h6, if_neg h6]
  by_cases h7 : aunt l b a = true
  · rw [if_pos h7, if_pos h7]; rfl
  rw [if_neg h7, if_neg h7]
  by_cases h8 : cous l a b = true
  · rw [if_pos h8, if_pos h8]; rfl
  rw [if_neg h8, if_neg h8]
  by_cases h9 : dec (Anc l a b) = true
  · rw [if_pos h9, if_pos h9]; rfl
  rw [if_neg h9, if_neg h9]
  by_cases h10 : dec (Anc l b a) = true
  · rw [if_pos h10, if_pos h10]; rfl
  rw [if_neg h10, if_neg h10]
  by_cases h11 : ((comms l a b).length : Int) > 0
  · rw [if_pos h11, if_pos (by rw [decide_eq_true_eq]; omega)]; rfl
  · rw [if_neg h11, if_neg (by rw [decide_eq_true_eq]; omega)]; rfl
theorem impl_Rel (l : List Kn) (hl : l.length ≤ 1073741824) (a b : Int) : Ev (fun k => impl_RelationOf.f k l a b) (vRel l a b) := by
  unfold impl_RelationOf.f vRel
  have hk := hasKin l hl [a, b]
  rw [allIn2] at hk
  refine Ev.bind hk ?_
  by_cases h : (good l && (inR l a && inR l b)) = true
  · obtain ⟨hf, ha, hb⟩ := (two_iff l a b).1 h
    have h14 := hf.1.2
    have la := ancs_len l a
    have lb := ancs_len l b
    rw [h, if_pos rfl]
    refine ifp rfl (Ev.bind (a := relText (relNo l a b)) ?_ now)
    unfold impl_RelationOf.all
    refine Ev.bind (isParent l a b hb) (Ev.bind (isParent l b a ha) (call (areSiblings l a b ha hb) (call (isGrand l hf a b hb) (call (isGrand l hf b a ha) (call (isAunt l hf a b ha hb) (call (isAunt l hf b a hb ha) (call (areCousins l hf a b ha hb) ?_)))))))
    refine Ev.bind (ancestors l hf b hb) (Ev.bind (contains _ (by omega) a) (Ev.bind (ancestors l hf a ha) (Ev.bind (contains _ (by omega) b) (Ev.bind (commonAncestors l hf a b ha hb) (evEq now ?_)))))
    rw [ancs_hasD l b a ha, ancs_hasD l a b hb]
    exact txt_rel l a b
  · rw [if_neg h]
    exact ifn h now
end Go.Proofs.Ytllihaahppelhaa.Pr
namespace Go.Proofs.Ytllihaahppelhaa.Pure
open Go.RowKit Go.Proofs.Ytllihaahppelhaa.P Go.Proofs.Ytllihaahppelhaa.Pr Go.Proofs.Ytllihaahppelhaa.E Go.Proofs.YtllihaahppelhaaW.PrintWords
theorem FnExactRelationOf : laws_FnExactRelationOf.Pure := by
  intro l a b hl hb _ _ _
  refine Ev.rounds ?_
  unfold laws_FnExactRelationOf.f
  refine call (szKinS l (by omega)) ?_
  by_cases hs : l.length ≤ 1048576
  · have hl' : l.length ≤ 1099511627776 := by omega
    have hcl : (conv l).length ≤ 1048576 := by rw [conv_length]; exact hs
    have hc' : (conv l).length ≤ 1099511627776 := by omega
    rw [if_pos hs]
    refine ifn (by omega) ?_
    have e1 := spec_Rel (conv l) (by omega) a b
    have e2 := impl_Rel (conv l) (by omega) a b
    generalize vRel (conv l) a b = v at e1 e2
    refine Ev.bind (toKinS l hl') (Ev.bind e1 (Ev.bind (toKinS l hl') (Ev.bind e2 ?_)))
    refine ifp rfl ?_
    refine Ev.step (f := fun k => _) (fun k => by rw [laws_FnExactRelationOf.j0]) (ifn (by simp) ?_)
    exact Ev.bind (toKinS l hl') (Ev.bind (eqKinS (conv l) hc') (ifp rfl now))
  · rw [if_neg hs]
    exact ifp (by omega) now
end Go.Proofs.Ytllihaahppelhaa.Pure
