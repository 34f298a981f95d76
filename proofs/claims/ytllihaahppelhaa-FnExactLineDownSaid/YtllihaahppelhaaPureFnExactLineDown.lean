/- The program's LineDown tells what the reference's tells, for every family and any two, and leaves what it is handed. No condition. -/
import Derived.Test.YtllihaahppelhaaPx16
import Derived.Test.YtllihaahppelhaaPx2
import Derived.Test.YtllihaahppelhaaPxHimplqLineDown
import Derived.Test.YtllihaahppelhaaPxHimplqareBetween
import Derived.Test.YtllihaahppelhaaPx11
import Derived.Test.YtllihaahppelhaaPx1
import Derived.Test.YtllihaahppelhaaPx7
import Derived.Test.YtllihaahppelhaaPxHimplqKinqparents
import Derived.Test.YtllihaahppelhaaPx0
import Derived.Test.YtllihaahppelhaaEv
import Derived.Lib.SlicesCompact
import Derived.Test.YtllihaahppelhaaPx14
import Derived.Test.YtllihaahppelhaaPxHimplqsteps
namespace Go.Proofs.Ytllihaahppelhaa.Pr
open Go.RowKit Go.Proofs.Ytllihaahppelhaa.P Go.Proofs.YtllihaahppelhaaW.PrintWords Go.Proofs.Ytllihaahppelhaa.E
abbrev Kn := S49
abbrev LK := S51
abbrev rdK (l : List Kn) (i : Int) : Kn := rd_T49 l i
theorem rdK_get (l : List Kn) (i : Nat) (h : i < l.length) : rd_T49 l (i : Int) = l[i] := by simp [rd_T49, List.getD_eq_getElem?_getD, List.getElem?_eq_getElem h]
theorem rdL_get (l : List LK) (i : Nat) (h : i < l.length) : rd_T51 l (i : Int) = l[i] := by simp [rd_T51, List.getD_eq_getElem?_getD, List.getElem?_eq_getElem h]
def conv1 (x : LK) : Kn := ⟨x.f0, x.f1, x.f2⟩
def conv (l : List LK) : List Kn := l.map conv1
theorem conv_length (l : List LK) : (conv l).length = l.length := by simp [conv]
theorem szKinS (l : List LK) (h : l.length ≤ 140737488351232) : laws_szKinS.f l 1048576 = some (if l.length ≤ 1048576 then 1048576 - (l.length : Int) else -1) := by
  unfold laws_szKinS.f
  rw [w64 _ (by omega)]
  by_cases h1 : l.length ≤ 1048576
  · rw [if_neg (by omega), if_pos h1]
  · rw [if_pos (by omega), if_neg h1]
theorem toKinS_l (l : List LK) (hl : l.length ≤ 1099511627776) (n : Nat) : ∀ i : Nat, i ≤ l.length → l.length - i ≤ n →
    Ev (fun k => laws_toKinS.l0 k l (conv (l.take i) ++ List.replicate (l.length - i) z49) (i : Int)) (conv l) := by
  have stop : Ev (fun k => laws_toKinS.l0 k l (conv (l.take l.length) ++ List.replicate (l.length - l.length) z49) (l.length : Int)) (conv l) := by
    refine Ev.step (f := fun k => _) (fun k => by rw [laws_toKinS.l0]) (ifn (by omega) (evEq now ?_))
    simp
  induction n with
  | zero =>
    intro i h1 h2
    obtain rfl : i = l.length := by omega
    exact stop
  | succ n ih =>
    intro i h1 h2
    by_cases hi : i < l.length
    · have hlen : (conv (l.take i) ++ List.replicate (l.length - i) z49).length = l.length := by simp [conv]; omega
      have hset : (conv (l.take i) ++ List.replicate (l.length - i) z49).set i (conv1 l[i]) = conv (l.take (i + 1)) ++ List.replicate (l.length - (i + 1)) z49 := by
        have hc : (conv (l.take i)).length = i := by simp [conv]; omega
        rw [List.set_append_right _ _ (by omega), hc, Nat.sub_self, show l.length - i = (l.length - (i + 1)) + 1 by omega, List.replicate_succ, List.set_cons_zero, List.take_succ_eq_append_getElem hi]
        simp only [conv, List.map_append, List.map_cons, List.map_nil, List.append_assoc, List.cons_append, List.nil_append]
      refine Ev.step (f := fun k => _) (fun k => by rw [laws_toKinS.l0]) (ifp (by omega) (ifp (by omega) ?_))
      refine call (b := (l[i].f0, l[i].f1, l[i].f2)) (by rw [rdL_get l i hi]; rfl) ?_
      refine ifp (by omega) ?_
      rw [w64 _ (by omega), Int.toNat_natCast]
      have := ih (i + 1) (by omega) (by omega)
      rw [← hset] at this
      exact this
    · obtain rfl : i = l.length := by omega
      exact stop
theorem toKinS (l : List LK) (hl : l.length ≤ 1099511627776) : Ev (fun k => laws_toKinS.f k l) (conv l) := by
  unfold laws_toKinS.f
  refine ifp (by omega) (ifp (by omega) ?_)
  have := toKinS_l l hl _ 0 (by omega) (Nat.le_refl _)
  simpa [conv] using this
theorem eqKin (a b c : Int) : laws_eqKin.f a b c a b c = some true := by simp [laws_eqKin.f]
theorem eqKinS_l (l : List Kn) (hl : l.length ≤ 1099511627776) (n : Nat) : ∀ i : Nat, i ≤ l.length → l.length - i ≤ n → Ev (fun k => laws_eqKinS.l0 k l l (i : Int)) true := by
  induction n with
  | zero =>
    intro i h1 h2
    exact Ev.step (f := fun k => _) (fun k => by rw [laws_eqKinS.l0]) (ifn (by omega) now)
  | succ n ih =>
    intro i h1 h2
    by_cases hi : i < l.length
    · refine Ev.step (f := fun k => _) (fun k => by rw [laws_eqKinS.l0]) (ifp (by omega) (ifp (by omega) (ifp (by omega) (call (eqKin _ _ _) (ifp rfl ?_)))))
      rw [w64 _ (by omega)]
      exact ih (i + 1) (by omega) (by omega)
    · exact Ev.step (f := fun k => _) (fun k => by rw [laws_eqKinS.l0]) (ifn (by omega) now)
theorem eqKinS (l : List Kn) (hl : l.length ≤ 1099511627776) : Ev (fun k => laws_eqKinS.f k l l) true := by
  unfold laws_eqKinS.f
  exact ifp rfl (eqKinS_l l hl _ 0 (by omega) (Nat.le_refl _))
end Go.Proofs.Ytllihaahppelhaa.Pr
namespace Go.Proofs.Ytllihaahppelhaa.Pr
open Go.RowKit Go.Proofs.Ytllihaahppelhaa.P Go.Proofs.YtllihaahppelhaaW.PrintWords Go.Proofs.Ytllihaahppelhaa.E
theorem l1In (a lo hi : Int) : spec_l1In.f a lo hi = some (decide (lo ≤ a ∧ a ≤ hi)) := by
  unfold spec_l1In.f
  by_cases h : a ≥ lo
  · rw [if_pos h]; congr 1; simp; omega
  · rw [if_neg h]; congr 1; simp; omega
theorem between (a lo hi : Int) : impl_between.f a lo hi = some (decide (lo ≤ a ∧ a ≤ hi)) := l1In a lo hi
theorem rdI (l : List Int) (i : Nat) (h : i < l.length) : rd l (i : Int) = l[i] := by simp [rd, List.getD_eq_getElem?_getD, List.getElem?_eq_getElem h]
/-- The known parents. -/
def ps (k : Kn) : List Int := [k.f1, k.f2].filter fun x => !decide (x < 0)
theorem parents_f (k : Kn) : impl_Kin_parents.f k.f0 k.f1 k.f2 = some (ps k) := rfl
theorem ps_len (k : Kn) : (ps k).length ≤ 2 := by unfold ps; exact Nat.le_trans (List.length_filter_le _ _) (by simp)
theorem mem_ps (k : Kn) (p : Int) : p ∈ ps k ↔ (p = k.f1 ∨ p = k.f2) ∧ 0 ≤ p := by
  unfold ps
  simp [List.mem_filter]
/-- May k be told behind the first i of l? -/
def Fits (l : List Kn) (i : Nat) (k : Kn) : Prop := (0 ≤ k.f0 ∧ k.f0 ≤ 3000) ∧ ((k.f1 = -1 ∧ k.f2 = -1) ∨ ((0 ≤ k.f1 ∧ k.f1 < i ∧ 14 ≤ k.f0 - (rdK l k.f1).f0) ∧ (k.f2 = -1 ∨ (k.f1 < k.f2 ∧ k.f2 < i ∧ 14 ≤ k.f0 - (rdK l k.f2).f0))))
instance (l : List Kn) (i : Nat) (k : Kn) : Decidable (Fits l i k) := by unfold Fits; exact inferInstance
def Fam (l : List Kn) : Prop := (1 ≤ l.length ∧ l.length ≤ 14) ∧ ∀ i, (h : i < l.length) → Fits l i l[i]
noncomputable def good (l : List Kn) : Bool := dec (Fam l)
theorem good_iff (l : List Kn) : good l = true ↔ Fam l := dec_iff _
theorem good_of (l : List Kn) (h : Fam l) : good l = true := (good_iff l).2 h
theorem good_not (l : List Kn) (h : ¬ Fam l) : good l = false := by
  cases e : good l with
  | true => exact absurd ((good_iff l).1 e) h
  | false => rfl
theorem rdK_int (l : List Kn) (p : Int) (h0 : 0 ≤ p) (h1 : p < (l.length : Int)) : ∃ h : p.toNat < l.length, rd_T49 l p = l[p.toNat] := by
  have h : p.toNat < l.length := by omega
  refine ⟨h, ?_⟩
  have e := rdK_get l p.toNat h
  rw [Int.toNat_of_nonneg h0] at e
  exact e
theorem rdK_take (l : List Kn) (i : Nat) (hi : i ≤ l.length) (p : Int) (h0 : 0 ≤ p) (h1 : p < (i : Int)) : rdK (l.take i) p = rdK l p := by
  obtain ⟨h2, e2⟩ := rdK_int (l.take i) p h0 (by rw [List.length_take]; omega)
  obtain ⟨h3, e3⟩ := rdK_int l p h0 (by omega)
  show rd_T49 _ _ = rd_T49 _ _
  rw [e2, e3, List.getElem_take]
theorem Fits_take (l : List Kn) (i : Nat) (hi : i ≤ l.length) (k : Kn) : Fits (l.take i) i k ↔ Fits l i k := by
  unfold Fits
  refine and_congr_right fun _ => or_congr_right ?_
  by_cases h1 : 0 ≤ k.f1 ∧ k.f1 < (i : Int)
  · rw [rdK_take l i hi _ h1.1 h1.2]
    refine and_congr_right fun _ => or_congr_right ?_
    by_cases h2 : 0 ≤ k.f2 ∧ k.f2 < (i : Int)
    · rw [rdK_take l i hi _ h2.1 h2.2]
    · constructor <;> intro h <;> exact absurd (show 0 ≤ k.f2 ∧ k.f2 < (i : Int) by omega) h2
  · constructor <;> intro h <;> exact absurd ⟨h.1.1, h.1.2.1⟩ h1
def Years (l : List Kn) : Prop := ∀ i, (h : i < l.length) → 0 ≤ l[i].f0 ∧ l[i].f0 ≤ 3000
theorem Years_rd (l : List Kn) (hy : Years l) (p : Int) (h0 : 0 ≤ p) (h1 : p < (l.length : Int)) : 0 ≤ (rdK l p).f0 ∧ (rdK l p).f0 ≤ 3000 := by
  obtain ⟨h, e⟩ := rdK_int l p h0 h1
  show 0 ≤ (rd_T49 l p).f0 ∧ (rd_T49 l p).f0 ≤ 3000
  rw [e]; exact hy _ h
theorem faOlder (b : List Kn) (p born : Int) (hy : Years b) (hb : 0 ≤ born ∧ born ≤ 3000) (hl : b.length ≤ 1073741824) : spec_faOlder.f b p born = some (decide (0 ≤ p ∧ p < (b.length : Int) ∧ 14 ≤ born - (rdK b p).f0)) := by
  unfold spec_faOlder.f
  rw [w64 _ (by omega), l1In]
  simp only [Option.bind_some]
  by_cases h : 0 ≤ p ∧ p ≤ (b.length : Int) - 1
  · have hr : 0 ≤ (rd_T49 b p).f0 ∧ (rd_T49 b p).f0 ≤ 3000 := Years_rd b hy p h.1 (by omega)
    rw [if_pos (by simpa using h), if_pos h.1, if_pos (by omega), w64 _ (by omega)]
    congr 1
    rw [decide_eq_decide]
    constructor
    · intro h1; exact ⟨h.1, by omega, h1⟩
    · intro h1; exact h1.2.2
  · rw [if_neg (by simpa using h)]
    congr 1
    symm
    rw [decide_eq_false_iff_not]
    intro h1
    exact h ⟨h1.1, by omega⟩
theorem faFits (b : List Kn) (k : Kn) (hy : Years b) (hl : b.length ≤ 1073741824) : spec_faFits.f b k.f0 k.f1 k.f2 = some (decide (Fits b b.length k)) := by
  unfold spec_faFits.f
  rw [l1In]
  simp only [Option.bind_some]
  by_cases h0 : 0 ≤ k.f0 ∧ k.f0 ≤ 3000
  · rw [if_pos (by simpa using h0)]
    by_cases h1 : k.f1 = -1
    · rw [if_pos h1]
      congr 1
      rw [Bool.eq_iff_iff, decide_eq_true_iff, beq_iff_eq]
      unfold Fits
      constructor
      · intro h; exact ⟨h0, .inl ⟨h1, h⟩⟩
      · rintro ⟨_, h | h⟩
        · exact h.2
        · omega
    · rw [if_neg h1, faOlder b k.f1 k.f0 hy h0 hl]
      simp only [Option.bind_some]
      by_cases h2 : 0 ≤ k.f1 ∧ k.f1 < (b.length : Int) ∧ 14 ≤ k.f0 - (rdK b k.f1).f0
      · rw [if_pos (by simpa using h2)]
        by_cases h3 : k.f2 = -1
        · rw [if_pos h3]
          congr 1
          symm
          rw [decide_eq_true_iff]
          exact ⟨h0, .inr ⟨h2, .inl h3⟩⟩
        · rw [if_neg h3]
          by_cases h4 : k.f1 < k.f2
          · rw [if_pos h4, faOlder b k.f2 k.f0 hy h0 hl]
            simp only [Option.bind_some]
            congr 1
            rw [decide_eq_decide]
            unfold Fits
            constructor
            · intro h5; exact ⟨h0, .inr ⟨h2, .inr ⟨h4, h5.2.1, h5.2.2⟩⟩⟩
            · rintro ⟨_, h | h⟩
              · omega
              · rcases h.2 with h | h
                · exact absurd h h3
                · exact ⟨by omega, h.2.1, h.2.2⟩
          · rw [if_neg h4]
            congr 1
            symm
            rw [decide_eq_false_iff_not]
            rintro ⟨_, h | h⟩
            · omega
            · rcases h.2 with h | h
              · exact h3 h
              · exact h4 h.1
      · rw [if_neg (by simpa using h2)]
        congr 1
        symm
        rw [decide_eq_false_iff_not]
        rintro ⟨_, h | h⟩
        · omega
        · exact h2 h.1
  · rw [if_neg (by simpa using h0)]
    congr 1
    symm
    rw [decide_eq_false_iff_not]
    exact fun h => h0 h.1
def FamFrom (l : List Kn) (i : Nat) : Prop := ∀ j, i ≤ j → (h : j < l.length) → Fits l j l[j]
theorem FamFrom_step (l : List Kn) (i : Nat) (h : i < l.length) (hf : Fits l i l[i]) : FamFrom l (i + 1) ↔ FamFrom l i := by
  constructor
  · intro h1 j hj hl
    by_cases e : j = i
    · subst e; exact hf
    · exact h1 j (by omega) hl
  · intro h1 j hj hl
    exact h1 j (by omega) hl
def YearsTo (l : List Kn) (i : Nat) : Prop := ∀ j, j < i → (h : j < l.length) → 0 ≤ l[j].f0 ∧ l[j].f0 ≤ 3000
theorem YearsTo_take (l : List Kn) (i : Nat) (h : YearsTo l i) : Years (l.take i) := by
  intro j hj
  rw [List.length_take] at hj
  rw [List.getElem_take]
  exact h j (by omega) (by omega)
theorem YearsTo_step (l : List Kn) (i : Nat) (h : i < l.length) (hf : Fits l i l[i]) (hy : YearsTo l i) : YearsTo l (i + 1) := by
  intro j hj hl
  by_cases e : j = i
  · subst e; exact hf.1
  · exact hy j (by omega) hl
theorem faGood_l (l : List Kn) (hl : l.length ≤ 1073741824) (n : Nat) : ∀ i : Nat, i ≤ l.length → l.length - i ≤ n → YearsTo l i → Ev (fun k => spec_faGood.l0 k l l (l.length : Int) (i : Int)) (dec (FamFrom l i)) := by
  have stop : Ev (fun k => spec_faGood.l0 k l l (l.length : Int) (l.length : Int)) (dec (FamFrom l l.length)) := by
    refine Ev.step (f := fun k => _) (fun k => by rw [spec_faGood.l0]) (ifn (by omega) (evEq now ?_))
    symm
    refine dec_pos ?_
    intro j h1 h2
    omega
  induction n with
  | zero =>
    intro i h1 h2 _
    obtain rfl : i = l.length := by omega
    exact stop
  | succ n ih =>
    intro i h1 h2 hy
    by_cases hi : i < l.length
    · refine Ev.step (f := fun k => _) (fun k => by rw [spec_faGood.l0]) (ifp (by omega) (ifp (by omega) (ifp (by omega) (ifp (by omega) ?_))))
      rw [rdK_get l i hi, Int.toNat_natCast, w64 _ (by omega)]
      have hf := faFits (l.take i) l[i] (YearsTo_take l i hy) (by rw [List.length_take]; omega)
      have e : (l.take i).length = i := by rw [List.length_take]; omega
      rw [e] at hf
      refine call hf ?_
      by_cases hq : Fits l i l[i]
      · refine ifp (by simpa using (Fits_take l i h1 l[i]).2 hq) (evEq (ih (i + 1) (by omega) (by omega) (YearsTo_step l i hi hq hy)) ?_)
        exact dec_congr (FamFrom_step l i hi hq)
      · refine ifn (by simpa using fun h => hq ((Fits_take l i h1 l[i]).1 h)) (evEq now ?_)
        symm
        exact dec_neg fun h => hq (h i (Nat.le_refl _) hi)
    · obtain rfl : i = l.length := by omega
      exact stop
theorem faGood (l : List Kn) (hl : l.length ≤ 1073741824) : Ev (fun k => spec_faGood.f k l) (good l) := by
  unfold spec_faGood.f
  refine call (l1In _ _ _) ?_
  by_cases h : 1 ≤ l.length ∧ l.length ≤ 14
  · refine ifp (by simp; omega) (evEq (faGood_l l hl _ 0 (by omega) (Nat.le_refl _) (fun j hj => absurd hj (Nat.not_lt_zero _))) ?_)
    refine dec_congr ?_
    constructor
    · intro h1; exact ⟨h, fun i hi => h1 i (by omega) hi⟩
    · intro h1 j _ hj; exact h1.2 j hj
  · refine ifn (by simp; omega) (evEq now ?_)
    rw [good_not l fun h1 => h h1.1]
end Go.Proofs.Ytllihaahppelhaa.Pr
namespace Go.Proofs.Ytllihaahppelhaa.Pr
open Go.RowKit Go.Proofs.Ytllihaahppelhaa.P Go.Proofs.YtllihaahppelhaaW.PrintWords Go.Proofs.Ytllihaahppelhaa.E
/-- The program's tests of one of the kin. -/
def Own (i : Nat) (k : Kn) : Prop := (0 ≤ k.f0 ∧ k.f0 ≤ 3000) ∧ (-1 ≤ k.f1 ∧ k.f1 ≤ (i : Int) - 1) ∧ (-1 ≤ k.f2 ∧ k.f2 ≤ (i : Int) - 1) ∧ ¬ (0 ≤ k.f2 ∧ k.f2 ≤ k.f1) ∧ ¬ (k.f1 < 0 ∧ 0 ≤ k.f2)
theorem Fits_own (l : List Kn) (i : Nat) (k : Kn) : Fits l i k ↔ Own i k ∧ ∀ p ∈ ps k, (rdK l p).f0 + 14 ≤ k.f0 := by
  unfold Fits Own
  simp only [mem_ps]
  constructor
  · rintro ⟨h0, h | ⟨h1, h2⟩⟩
    · refine ⟨⟨h0, by omega, by omega, by omega, by omega⟩, ?_⟩
      rintro p ⟨h3 | h3, h4⟩ <;> omega
    · rcases h2 with h2 | h2
      · refine ⟨⟨h0, by omega, by omega, by omega, by omega⟩, ?_⟩
        rintro p ⟨h3 | h3, h4⟩
        · subst h3; omega
        · omega
      · refine ⟨⟨h0, by omega, by omega, by omega, by omega⟩, ?_⟩
        rintro p ⟨h3 | h3, h4⟩
        · subst h3; omega
        · subst h3; omega
  · rintro ⟨⟨h0, h1, h2, h3, h4⟩, h5⟩
    refine ⟨h0, ?_⟩
    by_cases e : k.f1 = -1
    · exact .inl ⟨e, by omega⟩
    · refine .inr ⟨⟨by omega, by omega, ?_⟩, ?_⟩
      · have := h5 k.f1 ⟨.inl rfl, by omega⟩
        omega
      · by_cases e2 : k.f2 = -1
        · exact .inl e2
        · refine .inr ⟨by omega, by omega, ?_⟩
          have := h5 k.f2 ⟨.inr rfl, by omega⟩
          omega
theorem isFamily_l1 (l : List Kn) (i : Nat) (k : Kn) (r : Bool) (L : List Int) (hi : i < l.length) (hL : L.length ≤ 2) (hy : YearsTo l i) (hv : ∀ p ∈ L, 0 ≤ p ∧ p < (i : Int)) (hr : Ev (fun n => impl_IsFamily.l0 n l l (l.length : Int) (wrap64 ((i : Int) + 1))) r) (n : Nat) :
    ∀ j : Nat, j ≤ L.length → L.length - j ≤ n → Ev (fun n => impl_IsFamily.l1 n l l (l.length : Int) (i : Int) L (L.length : Int) (j : Int) k.f0 k.f1 k.f2) (if (∀ p ∈ L.drop j, (rdK l p).f0 + 14 ≤ k.f0) then r else false) := by
  have stop : Ev (fun n => impl_IsFamily.l1 n l l (l.length : Int) (i : Int) L (L.length : Int) (L.length : Int) k.f0 k.f1 k.f2) (if (∀ p ∈ L.drop L.length, (rdK l p).f0 + 14 ≤ k.f0) then r else false) := by
    rw [if_pos (by simp)]
    exact Ev.step (f := fun k => _) (fun k => by rw [impl_IsFamily.l1]) (ifn (by omega) hr)
  induction n with
  | zero =>
    intro j h1 h2
    obtain rfl : j = L.length := by omega
    exact stop
  | succ n ih =>
    intro j h1 h2
    by_cases hj : j < L.length
    · have hp := hv L[j] (List.getElem_mem hj)
      have hb : 0 ≤ (rd_T49 l L[j]).f0 ∧ (rd_T49 l L[j]).f0 ≤ 3000 := by
        obtain ⟨h3, e3⟩ := rdK_int l L[j] hp.1 (by omega)
        rw [e3]; exact hy _ (by omega) h3
      refine Ev.step (f := fun k => _) (fun k => by rw [impl_IsFamily.l1]) (ifp (by omega) (ifp (by omega) (ifp (by omega) ?_)))
      rw [rdI L j hj, w64 (j + 1) (by omega), w64 _ (by omega)]
      refine ifp hp.1 (ifp (by omega) ?_)
      have e : (∀ p ∈ L.drop j, (rdK l p).f0 + 14 ≤ k.f0) ↔ (rdK l L[j]).f0 + 14 ≤ k.f0 ∧ ∀ p ∈ L.drop (j + 1), (rdK l p).f0 + 14 ≤ k.f0 := by
        rw [List.drop_eq_getElem_cons hj]
        simp only [List.mem_cons, forall_eq_or_imp]
      by_cases h3 : (rdK l L[j]).f0 + 14 ≤ k.f0
      · have h3' : (rd_T49 l L[j]).f0 + 14 ≤ k.f0 := h3
        refine ifn (by omega) (evEq (ih (j + 1) (by omega) (by omega)) ?_)
        simp only [e, h3, true_and]
      · have h3' : ¬ (rd_T49 l L[j]).f0 + 14 ≤ k.f0 := h3
        refine ifp (by omega) (evEq now ?_)
        rw [if_neg (fun h => h3 (e.1 h).1)]
    · obtain rfl : j = L.length := by omega
      exact stop
theorem isFamily_j1 (l : List Kn) (i : Nat) (k : Kn) (x r : Bool) (hi : i < l.length) (hy : YearsTo l i) (h0 : 0 ≤ k.f0 ∧ k.f0 ≤ 3000) (h1 : -1 ≤ k.f1 ∧ k.f1 ≤ (i : Int) - 1) (h2 : -1 ≤ k.f2 ∧ k.f2 ≤ (i : Int) - 1) (hx : x = decide ((0 ≤ k.f2 ∧ k.f2 ≤ k.f1) ∨ (k.f1 < 0 ∧ 0 ≤ k.f2)))
    (hr : Ev (fun n => impl_IsFamily.l0 n l l (l.length : Int) (wrap64 ((i : Int) + 1))) r) : Ev (fun n => impl_IsFamily.j1 n l l (l.length : Int) (i : Int) x k.f0 k.f1 k.f2) (if Fits l i k then r else false) := by
  refine Ev.step (f := fun k => _) (fun k => by rw [impl_IsFamily.j1]) ?_
  subst hx
  by_cases h : (0 ≤ k.f2 ∧ k.f2 ≤ k.f1) ∨ (k.f1 < 0 ∧ 0 ≤ k.f2)
  · refine ifp (by simpa using h) (evEq now ?_)
    rw [if_neg]
    intro h3
    have := ((Fits_own l i k).1 h3).1
    unfold Own at this
    rcases h with h | h
    · exact this.2.2.2.1 h
    · exact this.2.2.2.2 h
  · refine ifn (by simpa using h) (call (parents_f k) ?_)
    have h4 := isFamily_l1 l i k r (ps k) hi (ps_len k) hy (fun p hp => by rw [mem_ps] at hp; omega) hr _ 0 (by omega) (Nat.le_refl _)
    refine evEq h4 ?_
    have e : (∀ p ∈ (ps k).drop 0, (rdK l p).f0 + 14 ≤ k.f0) ↔ Fits l i k := by
      rw [Fits_own, List.drop_zero]
      constructor
      · intro h5; exact ⟨⟨h0, h1, h2, fun h6 => h (.inl h6), fun h6 => h (.inr h6)⟩, h5⟩
      · exact fun h5 => h5.2
    simp only [e]
theorem isFamily_l (l : List Kn) (hl : l.length ≤ 1073741824) (n : Nat) : ∀ i : Nat, i ≤ l.length → l.length - i ≤ n → YearsTo l i → Ev (fun k => impl_IsFamily.l0 k l l (l.length : Int) (i : Int)) (dec (FamFrom l i)) := by
  have stop : Ev (fun k => impl_IsFamily.l0 k l l (l.length : Int) (l.length : Int)) (dec (FamFrom l l.length)) := by
    refine Ev.step (f := fun k => _) (fun k => by rw [impl_IsFamily.l0]) (ifn (by omega) (evEq now ?_))
    symm
    refine dec_pos ?_
    intro j h1 h2
    omega
  induction n with
  | zero =>
    intro i h1 h2 _
    obtain rfl : i = l.length := by omega
    exact stop
  | succ n ih =>
    intro i h1 h2 hy
    by_cases hi : i < l.length
    · have key : Ev (fun k => impl_IsFamily.l0 k l l (l.length : Int) (i : Int)) (if Fits l i l[i] then dec (FamFrom l (i + 1)) else false) ∨ Ev (fun k => impl_IsFamily.l0 k l l (l.length : Int) (i : Int)) (if Fits l i l[i] then dec (FamFrom l i) else false) := by
        generalize hk : l[i] = k
        have go : ∀ x : Bool, x = decide ((0 ≤ k.f2 ∧ k.f2 ≤ k.f1) ∨ (k.f1 < 0 ∧ 0 ≤ k.f2)) → (0 ≤ k.f0 ∧ k.f0 ≤ 3000) → (-1 ≤ k.f1 ∧ k.f1 ≤ (i : Int) - 1) → (-1 ≤ k.f2 ∧ k.f2 ≤ (i : Int) - 1) →
            Ev (fun n => impl_IsFamily.j1 n l l (l.length : Int) (i : Int) x k.f0 k.f1 k.f2) (if Fits l i k then dec (FamFrom l i) else false) := by
          intro x hx a0 a1 a2
          by_cases hf : Fits l i k
          · have h3 := ih (i + 1) (by omega) (by omega) (YearsTo_step l i hi (by rw [hk]; exact hf) hy)
            rw [show ((i + 1 : Nat) : Int) = wrap64 ((i : Int) + 1) by rw [w64 _ (by omega)]; rfl] at h3
            refine evEq (isFamily_j1 l i k x _ hi hy a0 a1 a2 hx h3) ?_
            rw [if_pos hf, if_pos hf]
            exact dec_congr (FamFrom_step l i hi (by rw [hk]; exact hf))
          · refine Ev.step (f := fun k => _) (fun k => by rw [impl_IsFamily.j1]) ?_
            subst hx
            rw [if_neg hf]
            by_cases h : (0 ≤ k.f2 ∧ k.f2 ≤ k.f1) ∨ (k.f1 < 0 ∧ 0 ≤ k.f2)
            · exact ifp (by simpa using h) now
            · refine ifn (by simpa using h) (call (parents_f k) ?_)
              have hex : ∃ j : Nat, j ≤ (ps k).length ∧ True := ⟨0, by omega, trivial⟩
              clear hex
              have nf : ¬ ∀ p ∈ ps k, (rdK l p).f0 + 14 ≤ k.f0 := fun h5 => hf ((Fits_own l i k).2 ⟨⟨a0, a1, a2, fun h6 => h (.inl h6), fun h6 => h (.inr h6)⟩, h5⟩)
              have stuck : ∀ (n : Nat) (j : Nat), j ≤ (ps k).length → (ps k).length - j ≤ n → (¬ ∀ p ∈ (ps k).drop j, (rdK l p).f0 + 14 ≤ k.f0) → Ev (fun n => impl_IsFamily.l1 n l l (l.length : Int) (i : Int) (ps k) ((ps k).length : Int) (j : Int) k.f0 k.f1 k.f2) false := by
                intro n
                induction n with
                | zero =>
                  intro j h1 h2 h3
                  exact absurd (by rw [List.drop_eq_nil_of_le (by omega)]; simp) h3
                | succ n ih2 =>
                  intro j h1 h2 h3
                  by_cases hj : j < (ps k).length
                  · have hL := ps_len k
                    have hp : 0 ≤ (ps k)[j] ∧ (ps k)[j] < (i : Int) := by
                      have := (mem_ps k (ps k)[j]).1 (List.getElem_mem hj)
                      omega
                    have hb : 0 ≤ (rd_T49 l (ps k)[j]).f0 ∧ (rd_T49 l (ps k)[j]).f0 ≤ 3000 := by
                      obtain ⟨h3, e3⟩ := rdK_int l (ps k)[j] hp.1 (by omega)
                      rw [e3]; exact hy _ (by omega) h3
                    refine Ev.step (f := fun k => _) (fun k => by rw [impl_IsFamily.l1]) (ifp (by omega) (ifp (by omega) (ifp (by omega) ?_)))
                    rw [rdI (ps k) j hj, w64 (j + 1) (by omega), w64 _ (by omega)]
                    refine ifp hp.1 (ifp (by omega) ?_)
                    by_cases h4 : (rdK l (ps k)[j]).f0 + 14 ≤ k.f0
                    · have h4' : (rd_T49 l (ps k)[j]).f0 + 14 ≤ k.f0 := h4
                      refine ifn (by omega) (ih2 (j + 1) (by omega) (by omega) ?_)
                      intro h5
                      apply h3
                      rw [List.drop_eq_getElem_cons hj]
                      simp only [List.mem_cons, forall_eq_or_imp]
                      exact ⟨h4, h5⟩
                    · have h4' : ¬ (rd_T49 l (ps k)[j]).f0 + 14 ≤ k.f0 := h4
                      exact ifp (by omega) now
                  · exact absurd (by rw [List.drop_eq_nil_of_le (by omega)]; simp) h3
              exact stuck _ 0 (by omega) (Nat.le_refl _) (by simpa using nf)
        have bad : ¬ Fits l i k → (false : Bool) = (if Fits l i k then dec (FamFrom l i) else false) := fun h => by rw [if_neg h]
        refine .inr (Ev.step (f := fun k => _) (fun k => by rw [impl_IsFamily.l0]) (ifp (by omega) (ifp (by omega) (ifp (by omega) ?_))))
        rw [rdK_get l i hi, hk, w64 ((i : Int) - 1) (by omega)]
        refine call (between _ _ _) ?_
        by_cases a0 : 0 ≤ k.f0 ∧ k.f0 ≤ 3000
        · refine ifp (by simpa using a0) (call (between _ _ _) ?_)
          by_cases a1 : -1 ≤ k.f1 ∧ k.f1 ≤ (i : Int) - 1
          · refine ifp (by simpa using a1) (call (between _ _ _) ?_)
            by_cases a2 : -1 ≤ k.f2 ∧ k.f2 ≤ (i : Int) - 1
            · refine ifp (by simpa using a2) ?_
              by_cases b0 : k.f2 ≥ 0
              · refine ifp b0 ?_
                by_cases b1 : k.f2 ≤ k.f1
                · exact ifp b1 (go _ (by symm; rw [decide_eq_true_iff]; omega) a0 a1 a2)
                · refine ifn b1 ?_
                  by_cases b2 : k.f1 < 0
                  · exact ifp b2 (go _ (by rw [decide_eq_decide]; omega) a0 a1 a2)
                  · exact ifn b2 (go _ (by symm; rw [decide_eq_false_iff_not]; omega) a0 a1 a2)
              · refine ifn b0 ?_
                by_cases b2 : k.f1 < 0
                · exact ifp b2 (go _ (by rw [decide_eq_decide]; omega) a0 a1 a2)
                · exact ifn b2 (go _ (by symm; rw [decide_eq_false_iff_not]; omega) a0 a1 a2)
            · refine ifn (by simpa using a2) ?_
              have nf : ¬ Fits l i k := fun h => a2 ((Fits_own l i k).1 h).1.2.2.1
              refine Ev.step (f := fun k => _) (fun k => by rw [impl_IsFamily.j1]) (ifp rfl (evEq now (bad nf)))
          · refine ifn (by simpa using a1) ?_
            have nf : ¬ Fits l i k := fun h => a1 ((Fits_own l i k).1 h).1.2.1
            refine Ev.step (f := fun k => _) (fun k => by rw [impl_IsFamily.j1]) (ifp rfl (evEq now (bad nf)))
        · refine ifn (by simpa using a0) ?_
          have nf : ¬ Fits l i k := fun h => a0 h.1
          refine Ev.step (f := fun k => _) (fun k => by rw [impl_IsFamily.j1]) (ifp rfl (evEq now (bad nf)))
      rcases key with key | key
      · refine evEq key ?_
        by_cases hf : Fits l i l[i]
        · rw [if_pos hf]; exact dec_congr (FamFrom_step l i hi hf)
        · rw [if_neg hf]; symm; exact dec_neg fun h => hf (h i (Nat.le_refl _) hi)
      · refine evEq key ?_
        by_cases hf : Fits l i l[i]
        · rw [if_pos hf]
        · rw [if_neg hf]; symm; exact dec_neg fun h => hf (h i (Nat.le_refl _) hi)
    · obtain rfl : i = l.length := by omega
      exact stop
theorem isFamily (l : List Kn) (hl : l.length ≤ 1073741824) : Ev (fun k => impl_IsFamily.f k l) (good l) := by
  unfold impl_IsFamily.f
  refine call (between _ _ _) ?_
  by_cases h : 1 ≤ l.length ∧ l.length ≤ 14
  · refine ifp (by simp; omega) (evEq (isFamily_l l hl _ 0 (by omega) (Nat.le_refl _) (fun j hj => absurd hj (Nat.not_lt_zero _))) ?_)
    refine dec_congr ?_
    constructor
    · intro h1; exact ⟨h, fun i hi => h1 i (by omega) hi⟩
    · intro h1 j _ hj; exact h1.2 j hj
  · refine ifn (by simp; omega) (evEq now ?_)
    rw [good_not l fun h1 => h h1.1]
end Go.Proofs.Ytllihaahppelhaa.Pr
namespace Go.Proofs.Ytllihaahppelhaa.Pr
open Go.RowKit Go.Proofs.Ytllihaahppelhaa.P Go.Proofs.YtllihaahppelhaaW.PrintWords Go.Proofs.Ytllihaahppelhaa.E
def inR (l : List Kn) (i : Int) : Bool := decide (0 ≤ i ∧ i < (l.length : Int))
theorem inR_iff (l : List Kn) (i : Int) : inR l i = true ↔ 0 ≤ i ∧ i < (l.length : Int) := by unfold inR; exact decide_eq_true_iff
theorem faWho (l : List Kn) (hl : l.length ≤ 1073741824) (a : Int) : Ev (fun k => spec_faWho.f k l a) (good l && inR l a) := by
  unfold spec_faWho.f
  refine Ev.bind (faGood l hl) ?_
  cases good l with
  | true =>
    refine ifp rfl (call (l1In _ _ _) (evEq now ?_))
    rw [w64 _ (by omega), Bool.true_and]
    unfold inR
    rw [decide_eq_decide]; omega
  | false => exact ifn (by simp) now
theorem areBetween_f (L : List Int) (lo hi : Int) : impl_areBetween.f L lo hi = some (L.all fun n => decide (lo ≤ n) && decide (n ≤ hi)) := rfl
theorem hasKin (l : List Kn) (hl : l.length ≤ 1073741824) (L : List Int) : Ev (fun k => impl_hasKin.f k l L) (good l && L.all (inR l)) := by
  unfold impl_hasKin.f
  refine Ev.bind (isFamily l hl) ?_
  cases good l with
  | true =>
    refine ifp rfl (call (areBetween_f _ _ _) (evEq now ?_))
    rw [w64 _ (by omega), Bool.true_and]
    congr 1
    funext n
    unfold inR
    rw [Bool.eq_iff_iff]
    simp
    omega
  | false => exact ifn (by simp) now
end Go.Proofs.Ytllihaahppelhaa.Pr
namespace Go.Proofs.Ytllihaahppelhaa.Pr
open Go.RowKit Go.Proofs.Ytllihaahppelhaa.P Go.Proofs.YtllihaahppelhaaW.PrintWords Go.Proofs.Ytllihaahppelhaa.E
theorem faParents_l (L : List Int) (hL : L.length ≤ 1000) (n : Nat) : ∀ (i : Nat) (acc : List Int), i ≤ L.length → L.length - i ≤ n → acc.length ≤ i →
    Ev (fun k => spec_faParents.l0 k acc L (L.length : Int) (i : Int)) (acc ++ (L.drop i).filter fun x => !decide (x < 0)) := by
  induction n with
  | zero =>
    intro i acc h1 h2 h3
    obtain rfl : i = L.length := by omega
    refine Ev.step (f := fun k => _) (fun k => by rw [spec_faParents.l0]) (ifn (by omega) (evEq now ?_))
    simp
  | succ n ih =>
    intro i acc h1 h2 h3
    by_cases hi : i < L.length
    · refine Ev.step (f := fun k => _) (fun k => by rw [spec_faParents.l0]) (ifp (by omega) (ifp (by omega) (ifp (by omega) ?_)))
      rw [rdI L i hi, w64 _ (by omega), List.drop_eq_getElem_cons hi]
      by_cases hx : L[i] ≥ 0
      · refine ifp hx (ifp (by omega) (evEq (ih (i + 1) (acc ++ [L[i]]) (by omega) (by omega) (by simp; omega)) ?_))
        rw [List.filter_cons_of_pos (by simpa using hx)]
        simp
      · refine ifn hx (evEq (ih (i + 1) acc (by omega) (by omega) (by omega)) ?_)
        rw [List.filter_cons_of_neg (by simp; omega)]
    · obtain rfl : i = L.length := by omega
      refine Ev.step (f := fun k => _) (fun k => by rw [spec_faParents.l0]) (ifn (by omega) (evEq now ?_))
      simp
theorem faParents (l : List Kn) (i : Nat) (hi : i < l.length) : Ev (fun k => spec_faParents.f k l (i : Int)) (ps l[i]) := by
  unfold spec_faParents.f
  refine ifp (by omega) (ifp (by omega) ?_)
  rw [rdK_get l i hi]
  exact faParents_l [l[i].f1, l[i].f2] (by simp) _ 0 [] (by omega) (Nat.le_refl _) (by simp)
theorem l1Has_l (x : Int) (L : List Int) (hL : L.length ≤ 1073741824) (n : Nat) : ∀ i : Nat, i ≤ L.length → L.length - i ≤ n → Ev (fun k => spec_l1Has.l0 k x L (L.length : Int) (i : Int)) ((L.drop i).contains x) := by
  induction n with
  | zero =>
    intro i h1 h2
    obtain rfl : i = L.length := by omega
    exact Ev.step (f := fun k => _) (fun k => by rw [spec_l1Has.l0]) (ifn (by omega) (evEq now (by simp)))
  | succ n ih =>
    intro i h1 h2
    by_cases hi : i < L.length
    · refine Ev.step (f := fun k => _) (fun k => by rw [spec_l1Has.l0]) (ifp (by omega) (ifp (by omega) (ifp (by omega) ?_)))
      rw [rdI L i hi, w64 _ (by omega), List.drop_eq_getElem_cons hi, List.contains_cons]
      by_cases hx : L[i] = x
      · exact ifp hx (evEq now (by simp [hx]))
      · have h5 : (x == L[i]) = false := by simpa using fun h => hx h.symm
        rw [h5, Bool.false_or]
        exact ifn hx (ih (i + 1) (by omega) (by omega))
    · obtain rfl : i = L.length := by omega
      exact Ev.step (f := fun k => _) (fun k => by rw [spec_l1Has.l0]) (ifn (by omega) (evEq now (by simp)))
theorem l1Has (x : Int) (L : List Int) (hL : L.length ≤ 1073741824) : Ev (fun k => spec_l1Has.f k L x) (L.contains x) := l1Has_l x L hL _ 0 (by omega) (Nat.le_refl _)
end Go.Proofs.Ytllihaahppelhaa.Pr
namespace Go.Proofs.Ytllihaahppelhaa.Pr
open Go.RowKit Go.Proofs.Ytllihaahppelhaa.P Go.Proofs.YtllihaahppelhaaW.PrintWords Go.Proofs.Ytllihaahppelhaa.E
/-- The parents of somebody. -/
abbrev pp (l : List Kn) (i : Int) : List Int := ps (rdK l i)
theorem faParentsI (l : List Kn) (i : Int) (h : 0 ≤ i ∧ i < (l.length : Int)) : Ev (fun k => spec_faParents.f k l i) (pp l i) := by
  obtain ⟨h2, e2⟩ := rdK_int l i h.1 h.2
  have := faParents l i.toNat h2
  rw [Int.toNat_of_nonneg h.1] at this
  show Ev _ (ps (rd_T49 l i))
  rw [e2]
  exact this
theorem Fam_pp (l : List Kn) (hf : Fam l) (i p : Int) (hi : 0 ≤ i ∧ i < (l.length : Int)) (hp : p ∈ pp l i) : 0 ≤ p ∧ p < i := by
  obtain ⟨h2, e2⟩ := rdK_int l i hi.1 hi.2
  change p ∈ ps (rd_T49 l i) at hp
  rw [e2] at hp
  have h3 := hf.2 _ h2
  have h4 := (mem_ps _ p).1 hp
  unfold Fits at h3
  omega
end Go.Proofs.Ytllihaahppelhaa.Pr
namespace Go.Proofs.Ytllihaahppelhaa.Pr
open Go.RowKit Go.Proofs.Ytllihaahppelhaa.P Go.Proofs.YtllihaahppelhaaW.PrintWords Go.Proofs.Ytllihaahppelhaa.E
/-- Two increasing lists of the same numbers are one. -/
theorem inc_ext : ∀ (xs ys : List Int), xs.Pairwise (· < ·) → ys.Pairwise (· < ·) → (∀ x, x ∈ xs ↔ x ∈ ys) → xs = ys
  | [], [], _, _, _ => rfl
  | [], y :: ys, _, _, h => by have := (h y).2 (List.mem_cons_self ..); cases this
  | x :: xs, [], _, _, h => by have := (h x).1 (List.mem_cons_self ..); cases this
  | x :: xs, y :: ys, hx, hy, h => by
    have hx' := List.pairwise_cons.1 hx
    have hy' := List.pairwise_cons.1 hy
    have e : x = y := by
      rcases List.mem_cons.1 ((h x).1 (List.mem_cons_self ..)) with e | e
      · exact e
      · rcases List.mem_cons.1 ((h y).2 (List.mem_cons_self ..)) with e2 | e2
        · exact e2.symm
        · have := hy'.1 x e
          have := hx'.1 y e2
          omega
    subst e
    congr 1
    refine inc_ext xs ys hx'.2 hy'.2 (fun z => ⟨fun hz => ?_, fun hz => ?_⟩)
    · rcases List.mem_cons.1 ((h z).1 (List.mem_cons_of_mem _ hz)) with e | e
      · have := hx'.1 z hz
        omega
      · exact e
    · rcases List.mem_cons.1 ((h z).2 (List.mem_cons_of_mem _ hz)) with e | e
      · have := hy'.1 z hz
        omega
      · exact e
theorem arr_get (xs : List Int) (j : Nat) (h : j < xs.length) : xs.toArray[j]! = xs[j] := by simp [getElem!_pos, h]
theorem cmp_up (xs : List Int) (hs : xs.Pairwise (· ≤ ·)) : ∀ m, m ≤ xs.length → (Lib.compactUpTo xs.toArray m).Pairwise (· < ·) ∧ ∀ x, x ∈ Lib.compactUpTo xs.toArray m ↔ x ∈ xs.take m := by
  intro m
  induction m with
  | zero => intro _; exact ⟨by simp [Lib.compactUpTo], by simp [Lib.compactUpTo]⟩
  | succ m ih =>
    intro hm
    obtain ⟨h1, h2⟩ := ih (by omega)
    have hlt : m < xs.length := by omega
    have ht : xs.take (m + 1) = xs.take m ++ [xs[m]] := List.take_succ_eq_append_getElem hlt
    have hle : ∀ x, x ∈ xs.take m → x ≤ xs[m] := by
      intro x hx
      obtain ⟨i, hi, rfl⟩ := List.mem_iff_getElem.1 hx
      rw [List.length_take] at hi
      rw [List.getElem_take]
      exact List.pairwise_iff_getElem.1 hs i m (by omega) hlt (by omega)
    rw [Lib.compactUpTo_succ]
    cases hk : Lib.keeps xs.toArray m with
    | true =>
      have hlt2 : ∀ x, x ∈ xs.take m → x < xs[m] := by
        intro x hx
        have h3 := hle x hx
        obtain ⟨i, hi, e⟩ := List.mem_iff_getElem.1 hx
        rw [List.length_take] at hi
        have hm0 : m ≠ 0 := by omega
        have hne : xs[m] ≠ xs[m - 1] := by
          unfold Lib.keeps at hk
          rw [arr_get xs m hlt, arr_get xs (m - 1) (by omega)] at hk
          simpa [hm0] using hk
        have h4 : xs[m - 1] ≤ xs[m] := List.pairwise_iff_getElem.1 hs (m - 1) m (by omega) hlt (by omega)
        have h5 : x ≤ xs[m - 1] := by
          rw [← e, List.getElem_take]
          by_cases h6 : i = m - 1
          · subst h6; exact Int.le_refl _
          · exact List.pairwise_iff_getElem.1 hs i (m - 1) (by omega) (by omega) (by omega)
        omega
      rw [if_pos rfl, arr_get xs m hlt, ht]
      refine ⟨List.pairwise_append.2 ⟨h1, by simp, fun a ha b hb => ?_⟩, fun x => ?_⟩
      · rw [List.mem_singleton.1 hb]
        exact hlt2 a ((h2 a).1 ha)
      · rw [List.mem_append, List.mem_append, h2 x]
    | false =>
      rw [if_neg (by simp), List.append_nil, ht]
      refine ⟨h1, fun x => ?_⟩
      rw [List.mem_append, h2 x]
      refine ⟨Or.inl, fun h => ?_⟩
      rcases h with h | h
      · exact h
      · have hm0 : m ≠ 0 := by
          rintro rfl
          simp [Lib.keeps] at hk
        have he : xs[m] = xs[m - 1] := by
          unfold Lib.keeps at hk
          rw [arr_get xs m hlt, arr_get xs (m - 1) (by omega)] at hk
          simpa [hm0] using hk
        rw [List.mem_singleton.1 h, he]
        refine List.mem_iff_getElem.2 ⟨m - 1, by rw [List.length_take]; omega, ?_⟩
        rw [List.getElem_take]
/-- Numbers in order, each once. -/
def dist (xs : List Int) : List Int := Lib.compact (xs.mergeSort fun x y => decide (x ≤ y))
theorem sorted (xs : List Int) : (xs.mergeSort fun x y => decide (x ≤ y)).Pairwise (· ≤ ·) := by
  have h := List.pairwise_mergeSort (le := fun x y : Int => decide (x ≤ y)) (fun a b c h1 h2 => by simp at *; omega) (fun a b => by simp; omega) xs
  exact h.imp (fun h => by simpa using h)
theorem dist_inc (xs : List Int) : (dist xs).Pairwise (· < ·) := (cmp_up _ (sorted xs) _ (Nat.le_of_eq (by simp))).1
theorem dist_mem (xs : List Int) (x : Int) : x ∈ dist xs ↔ x ∈ xs := by
  have h := (cmp_up _ (sorted xs) _ (Nat.le_refl _)).2 x
  unfold dist Lib.compact
  rw [h, List.take_length, List.mem_mergeSort]
/-- All whole numbers below n of which something is so. -/
noncomputable def upTo (n : Nat) (p : Int → Prop) : List Int := ((List.range n).filter fun i : Nat => dec (p (i : Int))).map fun i : Nat => (i : Int)
theorem upTo_mem (n : Nat) (p : Int → Prop) (x : Int) : x ∈ upTo n p ↔ (0 ≤ x ∧ x < (n : Int)) ∧ p x := by
  unfold upTo
  rw [List.mem_map]
  constructor
  · rintro ⟨i, hi, rfl⟩
    have h := List.mem_filter.1 hi
    have h2 := List.mem_range.1 h.1
    exact ⟨by omega, (dec_iff _).1 h.2⟩
  · rintro ⟨h, hp⟩
    refine ⟨x.toNat, List.mem_filter.2 ⟨List.mem_range.2 (by omega), ?_⟩, by omega⟩
    rw [show ((x.toNat : Nat) : Int) = x by omega]
    exact dec_pos hp
theorem upTo_inc (n : Nat) (p : Int → Prop) : (upTo n p).Pairwise (· < ·) := by
  unfold upTo
  refine List.Pairwise.map _ (fun a b h => ?_) ((List.pairwise_lt_range (n := n)).filter _)
  exact Int.ofNat_lt.2 h
theorem upTo_len (n : Nat) (p : Int → Prop) : (upTo n p).length ≤ n := by
  unfold upTo
  rw [List.length_map]
  exact Nat.le_trans (List.length_filter_le _ _) (by simp)
theorem upTo_eq (n : Nat) (p : Int → Prop) (xs : List Int) (hi : xs.Pairwise (· < ·)) (h : ∀ x, x ∈ xs ↔ (0 ≤ x ∧ x < (n : Int)) ∧ p x) : xs = upTo n p :=
  inc_ext _ _ hi (upTo_inc n p) (fun x => (h x).trans (upTo_mem n p x).symm)
/-- x is an ancestor of y. -/
inductive Anc (l : List Kn) : Int → Int → Prop
  | one {x y : Int} (h : x ∈ pp l y) : Anc l x y
  | more {x y z : Int} (h : x ∈ pp l y) (k : Anc l y z) : Anc l x z
theorem Anc_lt (l : List Kn) (hf : Fam l) (x y : Int) (h : Anc l x y) (hy : 0 ≤ y ∧ y < (l.length : Int)) : 0 ≤ x ∧ x < y := by
  induction h with
  | one h => exact Fam_pp l hf _ _ hy h
  | more h k ih =>
    have h1 := ih hy
    have h2 := Fam_pp l hf _ _ (by omega) h
    omega
theorem Anc_by (l : List Kn) (x z : Int) : Anc l x z ↔ ∃ p, p ∈ pp l z ∧ (x = p ∨ Anc l x p) := by
  constructor
  · intro h
    induction h with
    | one h => exact ⟨_, h, .inl rfl⟩
    | more h k ih =>
      obtain ⟨p, hp, h1⟩ := ih
      refine ⟨p, hp, .inr ?_⟩
      rcases h1 with rfl | h1
      · exact .one h
      · exact .more h h1
  · rintro ⟨p, hp, rfl | h⟩
    · exact .one hp
    · induction h with
      | one h => exact .more h (.one hp)
      | more h k ih => exact .more h (ih hp)
theorem Anc_up (l : List Kn) (x z : Int) : Anc l x z ↔ ∃ y, (y = z ∨ Anc l y z) ∧ x ∈ pp l y := by
  constructor
  · intro h
    cases h with
    | one h => exact ⟨_, .inl rfl, h⟩
    | more h k => exact ⟨_, .inr k, h⟩
  · rintro ⟨y, rfl | h, hx⟩
    · exact .one hx
    · exact .more hx h
noncomputable def ancs (l : List Kn) (i : Int) : List Int := upTo l.length fun j => Anc l j i
end Go.Proofs.Ytllihaahppelhaa.Pr
namespace Go.Proofs.Ytllihaahppelhaa.Pr
open Go.RowKit Go.Proofs.Ytllihaahppelhaa.P Go.Proofs.YtllihaahppelhaaW.PrintWords Go.Proofs.Ytllihaahppelhaa.E
/-- There is a walk of so many steps. -/
inductive Wk (nx : Int → List Int) (s : Int) : Int → Nat → Prop
  | now : Wk nx s s 0
  | on {u v : Int} {m : Nat} (h : Wk nx s u m) (k : v ∈ nx u) : Wk nx s v (m + 1)
/-- d is the least number of steps to x, -1 if there is no walk. -/
def Least (nx : Int → List Int) (s x d : Int) : Prop := (d = -1 ∧ ∀ m, ¬ Wk nx s x m) ∨ ∃ m : Nat, d = m ∧ Wk nx s x m ∧ ∀ k, Wk nx s x k → m ≤ k
theorem Least_one (nx : Int → List Int) (s x d e : Int) (h : Least nx s x d) (k : Least nx s x e) : d = e := by
  rcases h with ⟨h1, h2⟩ | ⟨m, h1, h2, h3⟩
  · rcases k with ⟨k1, k2⟩ | ⟨m', k1, k2, k3⟩
    · omega
    · exact absurd k2 (h2 _)
  · rcases k with ⟨k1, k2⟩ | ⟨m', k1, k2, k3⟩
    · exact absurd h2 (k2 _)
    · have := h3 _ k2
      have := k3 _ h2
      omega
/-- Different numbers below n are at most n. -/
theorem few (n : Nat) : ∀ (qu : List Int), qu.Nodup → (∀ x ∈ qu, 0 ≤ x ∧ x < (n : Int)) → qu.length ≤ n := by
  induction n with
  | zero =>
    intro qu _ h
    cases qu with
    | nil => simp
    | cons x t => have := h x (List.mem_cons_self ..); omega
  | succ n ih =>
    intro qu hd h
    by_cases hm : (n : Int) ∈ qu
    · have h1 := ih (qu.erase (n : Int)) (hd.erase _) (fun x hx => by
        have h2 := (List.Nodup.mem_erase_iff hd).1 hx
        have h3 := h x h2.2
        omega)
      rw [List.length_erase_of_mem hm] at h1
      omega
    · have h1 := ih qu hd (fun x hx => by
        have h3 := h x hx
        have h4 : x ≠ (n : Int) := fun e => hm (e ▸ hx)
        omega)
      omega
theorem rd_set_same (out : List Int) (k v : Int) (h : 0 ≤ k ∧ k < (out.length : Int)) : rd (out.set k.toNat v) k = v := by
  unfold rd
  rw [List.getD_eq_getElem?_getD, List.getElem?_set_self (by omega)]
  rfl
theorem rd_set_ne (out : List Int) (k x v : Int) (h : 0 ≤ k ∧ 0 ≤ x ∧ x ≠ k) : rd (out.set k.toNat v) x = rd out x := by
  unfold rd
  rw [List.getD_eq_getElem?_getD, List.getElem?_set_ne (by omega), List.getD_eq_getElem?_getD]
theorem rd_app (qu : List Int) (x : Int) (j : Nat) (h : j < qu.length) : rd (qu ++ [x]) (j : Int) = rd qu (j : Int) := by
  rw [rdI _ j (by simp; omega), rdI _ j h, List.getElem_append_left h]
theorem rd_mem (qu : List Int) (j : Nat) (h : j < qu.length) : rd qu (j : Int) ∈ qu := by
  rw [rdI _ j h]; exact List.getElem_mem h
/-- What holds of the table and the queue, i of which have been taken. -/
structure Bfs (nx : Int → List Int) (s : Int) (n : Nat) (out qu : List Int) (i : Nat) : Prop where
  len : out.length = n
  qr : ∀ x ∈ qu, 0 ≤ x ∧ x < (n : Int)
  nd : qu.Nodup
  val : ∀ x, 0 ≤ x → x < (n : Int) → (rd out x = -1 ∧ x ∉ qu) ∨ (x ∈ qu ∧ ∃ m : Nat, rd out x = m ∧ Wk nx s x m)
  srt : qu.Pairwise (fun x y => rd out x ≤ rd out y)
  top : i < qu.length → ∀ x ∈ qu, rd out x ≤ rd out (rd qu (i : Int)) + 1
  old : ∀ j, j < i → j < qu.length → ∀ v ∈ nx (rd qu (j : Int)), v ∈ qu ∧ rd out v ≤ rd out (rd qu (j : Int)) + 1
  str : s ∈ qu ∧ rd out s = 0
theorem Bfs.few_ {nx : Int → List Int} {s : Int} {n : Nat} {out qu : List Int} {i : Nat} (h : Bfs nx s n out qu i) : qu.length ≤ n := few n qu h.nd h.qr
theorem Bfs.start (nx : Int → List Int) (s : Int) (n : Nat) (hs : 0 ≤ s ∧ s < (n : Int)) : Bfs nx s n ((List.replicate n (-1)).set s.toNat 0) [s] 0 where
  len := by simp
  qr := fun x hx => by rw [List.mem_singleton.1 hx]; exact hs
  nd := by simp
  val := fun x h0 h1 => by
    by_cases e : x = s
    · subst e
      exact .inr ⟨by simp, 0, by rw [rd_set_same _ _ _ (by simpa using hs)]; rfl, .now⟩
    · refine .inl ⟨?_, by simpa using e⟩
      rw [rd_set_ne _ _ _ _ ⟨hs.1, h0, e⟩, ← Int.toNat_of_nonneg h0, rdI _ _ (by simp; omega)]
      simp
  srt := by simp
  top := fun _ x hx => by
    rw [List.mem_singleton.1 hx]
    show _ ≤ rd _ (rd [s] 0) + 1
    have : rd [s] 0 = s := rfl
    rw [this]; omega
  old := fun j hj => absurd hj (Nat.not_lt_zero _)
  str := ⟨by simp, rd_set_same _ _ _ (by simpa using hs)⟩
/-- A new one. -/
theorem Bfs.push {nx : Int → List Int} {s : Int} {n : Nat} {out qu : List Int} {i : Nat} (h : Bfs nx s n out qu i) (hi : i < qu.length) (k : Int) (hk : 0 ≤ k ∧ k < (n : Int)) (hn : rd out k < 0) (hm : k ∈ nx (rd qu (i : Int))) :
    Bfs nx s n (out.set k.toNat (rd out (rd qu (i : Int)) + 1)) (qu ++ [k]) i := by
  have hq : k ∉ qu := by
    intro hk2
    rcases h.val k hk.1 hk.2 with ⟨_, h2⟩ | ⟨_, m, h2, _⟩
    · exact h2 hk2
    · omega
  have hl : 0 ≤ k ∧ k < (out.length : Int) := by rw [h.len]; exact hk
  have same : ∀ x ∈ qu, rd (out.set k.toNat (rd out (rd qu (i : Int)) + 1)) x = rd out x := fun x hx => rd_set_ne _ _ _ _ ⟨hk.1, (h.qr x hx).1, fun e => hq (e ▸ hx)⟩
  have new : rd (out.set k.toNat (rd out (rd qu (i : Int)) + 1)) k = rd out (rd qu (i : Int)) + 1 := rd_set_same _ _ _ hl
  have hqi := rd_mem qu i hi
  refine ⟨by rw [List.length_set]; exact h.len, ?_, ?_, ?_, ?_, ?_, ?_, ?_⟩
  · intro x hx
    rcases List.mem_append.1 hx with hx | hx
    · exact h.qr x hx
    · rw [List.mem_singleton.1 hx]; exact hk
  · refine List.nodup_append.2 ⟨h.nd, by simp, fun a ha b hb e => ?_⟩
    rw [List.mem_singleton.1 hb] at e
    exact hq (e ▸ ha)
  · intro x h0 h1
    by_cases e : x = k
    · subst e
      refine .inr ⟨by simp, ?_⟩
      rcases h.val _ (h.qr _ hqi).1 (h.qr _ hqi).2 with ⟨_, h2⟩ | ⟨_, m, h2, h3⟩
      · exact absurd hqi h2
      · exact ⟨m + 1, by rw [new, h2]; rfl, .on h3 hm⟩
    · rw [rd_set_ne _ _ _ _ ⟨hk.1, h0, e⟩]
      rcases h.val x h0 h1 with ⟨h2, h3⟩ | ⟨h2, h3⟩
      · refine .inl ⟨h2, fun h4 => ?_⟩
        rcases List.mem_append.1 h4 with h4 | h4
        · exact h3 h4
        · exact e (List.mem_singleton.1 h4)
      · exact .inr ⟨List.mem_append_left _ h2, h3⟩
  · refine List.pairwise_append.2 ⟨?_, by simp, fun a ha b hb => ?_⟩
    · refine h.srt.imp_of_mem (fun {a b} ha hb hab => ?_)
      rw [same a ha, same b hb]; exact hab
    · rw [List.mem_singleton.1 hb, same a ha, new]
      exact h.top hi a ha
  · intro _ x hx
    rw [rd_app qu k i hi, same _ hqi]
    rcases List.mem_append.1 hx with hx | hx
    · rw [same x hx]; exact h.top hi x hx
    · rw [List.mem_singleton.1 hx, new]; omega
  · intro j hj hj2 v hv
    have hj3 : j < qu.length := by omega
    rw [rd_app qu k j hj3] at hv ⊢
    obtain ⟨h2, h3⟩ := h.old j hj hj3 v hv
    rw [same _ (rd_mem qu j hj3), same v h2]
    exact ⟨List.mem_append_left _ h2, h3⟩
  · exact ⟨List.mem_append_left _ h.str.1, by rw [same _ h.str.1]; exact h.str.2⟩
/-- The next one is taken. -/
theorem Bfs.next {nx : Int → List Int} {s : Int} {n : Nat} {out qu : List Int} {i : Nat} (h : Bfs nx s n out qu i) (hi : i < qu.length) (hall : ∀ v ∈ nx (rd qu (i : Int)), v ∈ qu) : Bfs nx s n out qu (i + 1) := by
  refine ⟨h.len, h.qr, h.nd, h.val, h.srt, fun hi2 x hx => ?_, fun j hj hj2 v hv => ?_, h.str⟩
  · have h1 := h.top hi x hx
    have h2 := List.pairwise_iff_getElem.1 h.srt i (i + 1) hi hi2 (by omega)
    rw [← rdI qu i hi, ← rdI qu (i + 1) hi2] at h2
    omega
  · by_cases e : j = i
    · subst e
      exact ⟨hall v hv, h.top hi v (hall v hv)⟩
    · exact h.old j (by omega) hj2 v hv
/-- All have been taken: the table tells the least numbers of steps. -/
theorem Bfs.done {nx : Int → List Int} {s : Int} {n : Nat} {out qu : List Int} {i : Nat} (h : Bfs nx s n out qu i) (hi : qu.length ≤ i) (x : Int) (h0 : 0 ≤ x ∧ x < (n : Int)) : Least nx s x (rd out x) := by
  have key : ∀ v m, Wk nx s v m → v ∈ qu ∧ rd out v ≤ (m : Int) := by
    intro v m hw
    induction hw with
    | now => exact ⟨h.str.1, by rw [h.str.2]; omega⟩
    | on hw hk ih =>
      obtain ⟨h1, h2⟩ := ih
      obtain ⟨j, hj, e⟩ := List.mem_iff_getElem.1 h1
      have e2 : rd qu (j : Int) = _ := (rdI qu j hj).trans e
      have h3 := h.old j (by omega) hj
      rw [e2] at h3
      obtain ⟨h4, h5⟩ := h3 _ hk
      exact ⟨h4, by omega⟩
  rcases h.val x h0.1 h0.2 with ⟨h1, h2⟩ | ⟨h1, m, h2, h3⟩
  · exact .inl ⟨h1, fun m hm => h2 (key x m hm).1⟩
  · refine .inr ⟨m, h2, h3, fun k hk => ?_⟩
    have := (key x k hk).2
    omega
end Go.Proofs.Ytllihaahppelhaa.Pr
namespace Go.Proofs.Ytllihaahppelhaa.Pr
open Go.RowKit Go.Proofs.Ytllihaahppelhaa.P Go.Proofs.YtllihaahppelhaaW.PrintWords Go.Proofs.Ytllihaahppelhaa.E
theorem index (L : List Int) (hL : L.length ≤ 1073741824) (x : Int) (n : Nat) : ∀ i : Nat, i ≤ L.length → L.length - i ≤ n → Ev (fun k => (slices_Index_int_int.l0 k L x (L.length : Int) (i : Int)).bind fun t => some (decide (t ≥ 0))) ((L.drop i).contains x) := by
  induction n with
  | zero =>
    intro i h1 h2
    obtain rfl : i = L.length := by omega
    refine Ev.step (f := fun k => some ((L.drop L.length).contains x)) (fun k => by rw [slices_Index_int_int.l0, if_neg (by omega)]; simp) now
  | succ n ih =>
    intro i h1 h2
    by_cases hi : i < L.length
    · by_cases hx : x = L[i]
      · refine Ev.step (f := fun k => some ((L.drop i).contains x)) (fun k => ?_) now
        rw [slices_Index_int_int.l0, if_pos (by omega), if_pos (by omega), if_pos (by omega), rdI L i hi, if_pos hx, List.drop_eq_getElem_cons hi, List.contains_cons, hx]
        simp
      · refine Ev.step (f := fun k => (slices_Index_int_int.l0 k L x (L.length : Int) ((i + 1 : Nat) : Int)).bind fun t => some (decide (t ≥ 0))) (fun k => ?_) (evEq (ih (i + 1) (by omega) (by omega)) ?_)
        · rw [slices_Index_int_int.l0, if_pos (by omega), if_pos (by omega), if_pos (by omega), rdI L i hi, if_neg (by simpa using hx), w64 _ (by omega)]; rfl
        · rw [List.drop_eq_getElem_cons hi, List.contains_cons]
          simp [hx]
    · obtain rfl : i = L.length := by omega
      refine Ev.step (f := fun k => some ((L.drop L.length).contains x)) (fun k => by rw [slices_Index_int_int.l0, if_neg (by omega)]; simp) now
theorem contains (L : List Int) (hL : L.length ≤ 1073741824) (x : Int) : Ev (fun k => slices_Contains_int_int.f k L x) (L.contains x) := index L hL x _ 0 (by omega) (Nat.le_refl _)
end Go.Proofs.Ytllihaahppelhaa.Pr
namespace Go.Proofs.Ytllihaahppelhaa.Pr
open Go.RowKit Go.Proofs.Ytllihaahppelhaa.P Go.Proofs.YtllihaahppelhaaW.PrintWords Go.Proofs.Ytllihaahppelhaa.E
def kid (l : List Kn) (a : Int) (i : Nat) : Bool := (ps (rdK l i)).contains a
def kids (l : List Kn) (a : Int) : List Int := ((List.range l.length).filter (kid l a)).map fun i : Nat => (i : Int)
theorem kids_len (l : List Kn) (a : Int) : (kids l a).length ≤ l.length := by
  unfold kids
  rw [List.length_map]
  exact Nat.le_trans (List.length_filter_le _ _) (by simp)
theorem kids_mem (l : List Kn) (a p : Int) (h : p ∈ kids l a) : 0 ≤ p ∧ p < (l.length : Int) := by
  unfold kids at h
  obtain ⟨i, h1, rfl⟩ := List.mem_map.1 h
  have := List.mem_range.1 (List.mem_filter.1 h1).1
  omega
def kidsTo (l : List Kn) (a : Int) (n : Nat) : List Int := ((List.range n).filter (kid l a)).map fun i : Nat => (i : Int)
theorem kidsTo_len (l : List Kn) (a : Int) (n : Nat) : (kidsTo l a n).length ≤ n := by
  unfold kidsTo
  rw [List.length_map]
  exact Nat.le_trans (List.length_filter_le _ _) (by simp)
theorem kidsTo_yes (l : List Kn) (a : Int) (n : Nat) (h : kid l a n = true) : kidsTo l a (n + 1) = kidsTo l a n ++ [(n : Int)] := by
  simp [kidsTo, List.range_succ, h]
theorem kidsTo_no (l : List Kn) (a : Int) (n : Nat) (h : kid l a n = false) : kidsTo l a (n + 1) = kidsTo l a n := by
  simp [kidsTo, List.range_succ, h]
theorem faChildren_l (l : List Kn) (hl : l.length ≤ 1073741824) (a : Int) (n : Nat) : ∀ i : Nat, i ≤ l.length → l.length - i ≤ n → Ev (fun k => spec_faChildren.l0 k l a (kidsTo l a i) (l.length : Int) (i : Int)) (kids l a) := by
  have stop : Ev (fun k => spec_faChildren.l0 k l a (kidsTo l a l.length) (l.length : Int) (l.length : Int)) (kids l a) := by
    refine Ev.step (f := fun k => _) (fun k => by rw [spec_faChildren.l0]) (ifn (by omega) (evEq now ?_))
    rfl
  induction n with
  | zero =>
    intro i h1 h2
    obtain rfl : i = l.length := by omega
    exact stop
  | succ n ih =>
    intro i h1 h2
    by_cases hi : i < l.length
    · have hk := kidsTo_len l a i
      refine Ev.step (f := fun k => _) (fun k => by rw [spec_faChildren.l0]) (ifp (by omega) ?_)
      refine Ev.bind (faParents l i hi) (Ev.bind (l1Has a _ (Nat.le_trans (ps_len _) (by decide))) ?_)
      rw [w64 _ (by omega)]
      have e : (ps l[i]).contains a = kid l a i := by unfold kid; rw [show rdK l i = l[i] from rdK_get l i hi]
      rw [e]
      cases h : kid l a i with
      | true =>
        refine ifp rfl (ifp (by omega) ?_)
        rw [← kidsTo_yes l a i h]
        exact ih (i + 1) (by omega) (by omega)
      | false =>
        refine ifn (by simp) ?_
        rw [← kidsTo_no l a i h]
        exact ih (i + 1) (by omega) (by omega)
    · obtain rfl : i = l.length := by omega
      exact stop
theorem faChildren (l : List Kn) (hl : l.length ≤ 1073741824) (a : Int) : Ev (fun k => spec_faChildren.f k l a) (kids l a) := faChildren_l l hl a _ 0 (by omega) (Nat.le_refl _)
theorem children_l (l : List Kn) (hl : l.length ≤ 1073741824) (a : Int) (n : Nat) : ∀ i : Nat, i ≤ l.length → l.length - i ≤ n → Ev (fun k => impl_children.l0 k a (kidsTo l a i) l (l.length : Int) (i : Int)) (kids l a) := by
  have stop : Ev (fun k => impl_children.l0 k a (kidsTo l a l.length) l (l.length : Int) (l.length : Int)) (kids l a) := by
    refine Ev.step (f := fun k => _) (fun k => by rw [impl_children.l0]) (ifn (by omega) (evEq now ?_))
    rfl
  induction n with
  | zero =>
    intro i h1 h2
    obtain rfl : i = l.length := by omega
    exact stop
  | succ n ih =>
    intro i h1 h2
    by_cases hi : i < l.length
    · have hk := kidsTo_len l a i
      refine Ev.step (f := fun k => _) (fun k => by rw [impl_children.l0]) (ifp (by omega) (ifp (by omega) (ifp (by omega) ?_)))
      rw [rdK_get l i hi]
      refine call (parents_f l[i]) (Ev.bind (contains _ (Nat.le_trans (ps_len _) (by decide)) a) ?_)
      rw [w64 _ (by omega)]
      have e : (ps l[i]).contains a = kid l a i := by unfold kid; rw [show rdK l i = l[i] from rdK_get l i hi]
      rw [e]
      cases h : kid l a i with
      | true =>
        refine ifp rfl (ifp (by omega) ?_)
        rw [← kidsTo_yes l a i h]
        exact ih (i + 1) (by omega) (by omega)
      | false =>
        refine ifn (by simp) ?_
        rw [← kidsTo_no l a i h]
        exact ih (i + 1) (by omega) (by omega)
    · obtain rfl : i = l.length := by omega
      exact stop
theorem children (l : List Kn) (hl : l.length ≤ 1073741824) (a : Int) : Ev (fun k => impl_children.f k l a) (kids l a) := children_l l hl a _ 0 (by omega) (Nat.le_refl _)
end Go.Proofs.Ytllihaahppelhaa.Pr
namespace Go.Proofs.Ytllihaahppelhaa.Pr
open Go.RowKit Go.Proofs.Ytllihaahppelhaa.P Go.Proofs.YtllihaahppelhaaW.PrintWords Go.Proofs.Ytllihaahppelhaa.E
theorem kids_iff (l : List Kn) (x c : Int) : c ∈ kids l x ↔ (0 ≤ c ∧ c < (l.length : Int)) ∧ x ∈ pp l c := by
  unfold kids
  simp only [List.mem_map, List.mem_filter, List.mem_range, kid, List.contains_iff_mem]
  constructor
  · rintro ⟨i, ⟨h1, h2⟩, rfl⟩
    exact ⟨⟨by omega, by omega⟩, h2⟩
  · rintro ⟨⟨h1, h2⟩, h3⟩
    obtain ⟨i, rfl⟩ := Int.eq_ofNat_of_zero_le h1
    exact ⟨i, ⟨by omega, h3⟩, rfl⟩
theorem kids_gt (l : List Kn) (hf : Fam l) (x c : Int) (h : c ∈ kids l x) : x < c := by
  obtain ⟨h1, h2⟩ := (kids_iff l x c).1 h
  exact (Fam_pp l hf c x h1 h2).2
theorem Wk_in (l : List Kn) (hf : Fam l) (b : Int) (hb : 0 ≤ b ∧ b < (l.length : Int)) (x : Int) (m : Nat) (h : Wk (pp l) b x m) : 0 ≤ x ∧ x + m ≤ b := by
  induction h with
  | now => omega
  | on hu hk ih =>
    have := Fam_pp l hf _ _ (by omega) hk
    omega
theorem Wk_kid (l : List Kn) (hf : Fam l) (b : Int) (hb : 0 ≤ b ∧ b < (l.length : Int)) (x : Int) (m : Nat) : Wk (pp l) b x (m + 1) ↔ ∃ c, c ∈ kids l x ∧ Wk (pp l) b c m := by
  constructor
  · intro h
    cases h with
    | on hu hk =>
      rename_i u
      have := Wk_in l hf b hb u m hu
      exact ⟨u, (kids_iff l x u).2 ⟨by omega, hk⟩, hu⟩
  · rintro ⟨c, h1, h2⟩
    exact .on h2 ((kids_iff l x c).1 h1).2
theorem Wk_zero (l : List Kn) (b x : Int) (h : Wk (pp l) b x 0) : x = b := by cases h; rfl
/-- The least of the numbers that are told, and one more. -/
def mn (o : List Int) : List Int → Int → Int
  | [], a => a
  | c :: cs, a => mn o cs (if 0 ≤ rd o c ∧ (a < 0 ∨ rd o c + 1 < a) then rd o c + 1 else a)
def Mn (o : List Int) (done : List Int) (a : Int) : Prop := (a = -1 ∧ ∀ c ∈ done, rd o c < 0) ∨ ((∃ c ∈ done, 0 ≤ rd o c ∧ a = rd o c + 1) ∧ ∀ c ∈ done, rd o c < 0 ∨ a ≤ rd o c + 1)
theorem Mn_step (o done : List Int) (a c : Int) (h : Mn o done a) : Mn o (done ++ [c]) (if 0 ≤ rd o c ∧ (a < 0 ∨ rd o c + 1 < a) then rd o c + 1 else a) := by
  split
  · rename_i hc
    refine .inr ⟨⟨c, by simp, hc.1, rfl⟩, fun x hx => ?_⟩
    rcases List.mem_append.1 hx with hx | hx
    · rcases h with ⟨_, h2⟩ | ⟨⟨d, _, h3, h4⟩, h5⟩
      · exact .inl (h2 x hx)
      · rcases h5 x hx with h6 | h6
        · exact .inl h6
        · right; omega
    · rw [List.mem_singleton.1 hx]; right; omega
  · rename_i hc
    rcases h with ⟨h1, h2⟩ | ⟨⟨d, hd, h3, h4⟩, h5⟩
    · refine .inl ⟨h1, fun x hx => ?_⟩
      rcases List.mem_append.1 hx with hx | hx
      · exact h2 x hx
      · rw [List.mem_singleton.1 hx]; omega
    · refine .inr ⟨⟨d, List.mem_append_left _ hd, h3, h4⟩, fun x hx => ?_⟩
      rcases List.mem_append.1 hx with hx | hx
      · exact h5 x hx
      · rw [List.mem_singleton.1 hx]; omega
theorem mn_Mn (o : List Int) (cs : List Int) : ∀ (done : List Int) (a : Int), Mn o done a → Mn o (done ++ cs) (mn o cs a) := by
  induction cs with
  | nil => intro done a h; simpa [mn] using h
  | cons c cs ih =>
    intro done a h
    have := ih (done ++ [c]) _ (Mn_step o done a c h)
    rw [List.append_assoc] at this
    exact this
theorem down_l1 (l : List Kn) (b who : Int) (hw : 0 ≤ who ∧ who < (l.length : Int)) (r o L : List Int) (ho : o.length = l.length) (hL : L.length ≤ 1000) (hin : ∀ c ∈ L, (0 ≤ c ∧ c < (l.length : Int)) ∧ c ≠ who ∧ rd o c ≤ 1000) (n : Nat) : ∀ (j : Nat) (a : Int), j ≤ L.length → L.length - j ≤ n →
    Ev (fun k => spec_faDown.l0 k l b (o.set who.toNat (mn o (L.drop j) a)) (wrap64 (who - 1))) r → Ev (fun k => spec_faDown.l1 k l b (o.set who.toNat a) who L (L.length : Int) (j : Int)) r := by
  have stop : ∀ a, Ev (fun k => spec_faDown.l0 k l b (o.set who.toNat (mn o (L.drop L.length) a)) (wrap64 (who - 1))) r → Ev (fun k => spec_faDown.l1 k l b (o.set who.toNat a) who L (L.length : Int) (L.length : Int)) r := by
    intro a hr
    rw [List.drop_length] at hr
    refine Ev.step (f := fun k => _) (fun k => by rw [spec_faDown.l1]) (ifn (by omega) ?_)
    exact hr
  induction n with
  | zero =>
    intro j a h1 h2 hr
    obtain rfl : j = L.length := by omega
    exact stop a hr
  | succ n ih =>
    intro j a h1 h2 hr
    by_cases hj : j < L.length
    · obtain ⟨hc, hne, hbd⟩ := hin L[j] (List.getElem_mem hj)
      rw [List.drop_eq_getElem_cons hj, mn] at hr
      generalize hcL : L[j] = c at hc hne hbd hr
      have e1 : rd (o.set who.toNat a) c = rd o c := rd_set_ne o who c a ⟨hw.1, hc.1, hne⟩
      have e2 : rd (o.set who.toNat a) who = a := rd_set_same o who a ⟨hw.1, by omega⟩
      have hlen : ((o.set who.toNat a).length : Int) = (l.length : Int) := by rw [List.length_set, ho]
      refine Ev.step (f := fun k => _) (fun k => by rw [spec_faDown.l1]) (ifp (by omega) (ifp (by omega) (ifp (by omega) ?_)))
      rw [rdI L j hj, hcL, w64 ((j : Int) + 1) (by omega), e1, e2, hlen]
      refine ifp hc.1 (ifp hc.2 ?_)
      by_cases h0 : 0 ≤ rd o c
      · rw [w64 _ (by omega)]
        refine ifp h0 (ifp hw.1 (ifp hw.2 ?_))
        rw [List.set_set]
        by_cases ha : a < 0
        · rw [if_pos ⟨h0, .inl ha⟩] at hr
          exact ifp ha (ih (j + 1) _ (by omega) (by omega) hr)
        · refine ifn ha ?_
          by_cases h3 : rd o c + 1 < a
          · rw [if_pos ⟨h0, .inr h3⟩] at hr
            exact ifp h3 (ih (j + 1) _ (by omega) (by omega) hr)
          · rw [if_neg (by omega)] at hr
            exact ifn h3 (ih (j + 1) _ (by omega) (by omega) hr)
      · rw [if_neg (by omega)] at hr
        exact ifn h0 (ih (j + 1) _ (by omega) (by omega) hr)
    · obtain rfl : j = L.length := by omega
      exact stop a hr
/-- What the table is when all from who on are done. -/
def Dn (l : List Kn) (b : Int) (o : List Int) (who : Int) : Prop := o.length = l.length ∧ ∀ x, who < x → x < (l.length : Int) → Least (pp l) b x (rd o x)
theorem Dn_step (l : List Kn) (hf : Fam l) (b who : Int) (hb : 0 ≤ b ∧ b < (l.length : Int)) (o : List Int) (h : Dn l b o who) (hne : who ≠ b) (v : Int) (hv : Mn o (kids l who) v) : Least (pp l) b who v := by
  have hL : ∀ c ∈ kids l who, Least (pp l) b c (rd o c) := fun c hc => h.2 c (kids_gt l hf who c hc) ((kids_iff l who c).1 hc).1.2
  have pos : ∀ m, Wk (pp l) b who m → ∃ m', m = m' + 1 := by
    intro m hm
    cases m with
    | zero => exact absurd (Wk_zero l b who hm) hne
    | succ m => exact ⟨m, rfl⟩
  rcases hv with ⟨h1, h2⟩ | ⟨⟨c, hc, h3, h4⟩, h5⟩
  · refine .inl ⟨h1, fun m hm => ?_⟩
    obtain ⟨m, rfl⟩ := pos m hm
    obtain ⟨c, hc, hwk⟩ := (Wk_kid l hf b hb who m).1 hm
    rcases hL c hc with ⟨_, h3⟩ | ⟨m', h3, _⟩
    · exact h3 m hwk
    · have := h2 c hc; omega
  · rcases hL c hc with ⟨h6, _⟩ | ⟨m, h6, h7, _⟩
    · omega
    · refine .inr ⟨m + 1, by omega, (Wk_kid l hf b hb who m).2 ⟨c, hc, h7⟩, fun k hk => ?_⟩
      obtain ⟨k, rfl⟩ := pos k hk
      obtain ⟨d, hd, hwk⟩ := (Wk_kid l hf b hb who k).1 hk
      rcases hL d hd with ⟨_, h8⟩ | ⟨m', h8, _, h9⟩
      · exact absurd hwk (h8 k)
      · have := h9 k hwk
        rcases h5 d hd with h10 | h10 <;> omega
theorem Least_bd (l : List Kn) (hf : Fam l) (b x d : Int) (hb : 0 ≤ b ∧ b < (l.length : Int)) (h : Least (pp l) b x d) : d ≤ 14 := by
  have h14 := hf.1.2
  rcases h with ⟨h1, _⟩ | ⟨m, h1, h2, _⟩
  · omega
  · have := Wk_in l hf b hb x m h2; omega
theorem down_l0 (l : List Kn) (hf : Fam l) (b : Int) (hb : 0 ≤ b ∧ b < (l.length : Int)) (n : Nat) : ∀ (who : Int) (o : List Int), -1 ≤ who → who < (l.length : Int) → who + 1 ≤ (n : Int) → Dn l b o who →
    ∃ r, Ev (fun k => spec_faDown.l0 k l b o who) r ∧ Dn l b r (-1) := by
  have h14 := hf.1.2
  induction n with
  | zero =>
    intro who o h1 h2 h3 h
    obtain rfl : who = -1 := by omega
    exact ⟨o, Ev.step (f := fun k => _) (fun k => by rw [spec_faDown.l0]) (ifn (by omega) now), h⟩
  | succ n ih =>
    intro who o h1 h2 h3 h
    by_cases h0 : who ≥ 0
    · have ho := h.1
      have e0 : wrap64 (who - 1) = who - 1 := w64 _ (by omega)
      have next : ∀ v, Least (pp l) b who v → Dn l b (o.set who.toNat v) (who - 1) := by
        intro v hv
        refine ⟨by rw [List.length_set]; exact ho, fun x hx hx2 => ?_⟩
        by_cases e : x = who
        · subst e; rw [rd_set_same o x v ⟨h0, by omega⟩]; exact hv
        · rw [rd_set_ne o who x v ⟨h0, by omega, e⟩]; exact h.2 x (by omega) hx2
      by_cases hbw : who = b
      · obtain ⟨r, e, hr⟩ := ih (who - 1) _ (by omega) (by omega) (by omega) (next 0 (by rw [hbw]; exact .inr ⟨0, rfl, .now, fun k _ => Nat.zero_le k⟩))
        refine ⟨r, ?_, hr⟩
        refine Ev.step (f := fun k => _) (fun k => by rw [spec_faDown.l0]) (ifp h0 (ifp (show (0 : Int) ≤ who from h0) (ifp (by omega) ?_)))
        refine call (b := o.set who.toNat (-1)) rfl ?_
        refine ifp hbw ?_
        rw [List.set_set, e0]
        exact e
      · have hm : Mn o (kids l who) (mn o (kids l who) (-1)) := mn_Mn o (kids l who) [] (-1) (.inl ⟨rfl, fun c hc => by cases hc⟩)
        obtain ⟨r, e, hr⟩ := ih (who - 1) _ (by omega) (by omega) (by omega) (next _ (Dn_step l hf b who hb o h hbw _ hm))
        have hkl := kids_len l who
        refine ⟨r, ?_, hr⟩
        refine Ev.step (f := fun k => _) (fun k => by rw [spec_faDown.l0]) (ifp h0 (ifp (show (0 : Int) ≤ who from h0) (ifp (by omega) ?_)))
        refine call (b := o.set who.toNat (-1)) rfl ?_
        refine ifn hbw (Ev.bind (faChildren l (by omega) who) ?_)
        refine down_l1 l b who ⟨h0, h2⟩ r o (kids l who) ho (by omega) (fun c hc => ?_) _ 0 (-1) (by omega) (Nat.le_refl _) ?_
        · have hg := kids_gt l hf who c hc
          have hi := ((kids_iff l who c).1 hc).1
          have := Least_bd l hf b c _ hb (h.2 c hg hi.2)
          exact ⟨hi, by omega, by omega⟩
        · rw [List.drop_zero, e0]
          exact e
    · obtain rfl : who = -1 := by omega
      exact ⟨o, Ev.step (f := fun k => _) (fun k => by rw [spec_faDown.l0]) (ifn (by omega) now), h⟩
theorem faDown (l : List Kn) (hf : Fam l) (b : Int) (hb : 0 ≤ b ∧ b < (l.length : Int)) : ∃ far, Ev (fun k => spec_faDown.f k l b) far ∧ far.length = l.length ∧ ∀ x, 0 ≤ x ∧ x < (l.length : Int) → Least (pp l) b x (rd far x) := by
  have h14 := hf.1
  obtain ⟨r, e, h1, h2⟩ := down_l0 l hf b hb l.length ((l.length : Int) - 1) (List.replicate l.length 0) (by omega) (by omega) (by omega) ⟨by simp, fun x h1 h2 => by omega⟩
  refine ⟨r, ?_, h1, fun x hx => h2 x (by omega) hx.2⟩
  unfold spec_faDown.f
  rw [Int.toNat_natCast, w64 _ (by omega)]
  exact ifp (by omega) (ifp (by omega) e)
end Go.Proofs.Ytllihaahppelhaa.Pr
namespace Go.Proofs.Ytllihaahppelhaa.Pr
open Go.RowKit Go.Proofs.Ytllihaahppelhaa.P Go.Proofs.YtllihaahppelhaaW.PrintWords Go.Proofs.Ytllihaahppelhaa.E
/-- Values are less than there are in the queue. -/
def Low (out qu : List Int) : Prop := ∀ x ∈ qu, rd out x + 1 ≤ (qu.length : Int)
theorem inn_ok (N : Int → List Int) (s : Int) (n : Nat) (hn : n ≤ 1000) (i : Nat) (q : Int) (ks : List Int) : ∀ (out qu : List Int), Bfs N s n out qu i → Low out qu → i < qu.length → rd qu (i : Int) = q → (∀ y ∈ ks, y ∈ N q ∧ 0 ≤ y ∧ y < (n : Int)) →
    ∃ o2 q2, impl_steps.inn (i : Int) ks out qu = some (o2, q2) ∧ Bfs N s n o2 q2 i ∧ Low o2 q2 ∧ i < q2.length ∧ rd q2 (i : Int) = q ∧ (∀ y ∈ qu, y ∈ q2) ∧ ∀ y ∈ ks, y ∈ q2 := by
  induction ks with
  | nil => intro out qu h hl hi hq _; exact ⟨out, qu, rfl, h, hl, hi, hq, fun _ h => h, fun y hy => by cases hy⟩
  | cons y ks ih =>
    intro out qu h hl hi hq hks
    obtain ⟨hyN, hy0, hy1⟩ := hks y (List.mem_cons_self ..)
    have hks' : ∀ z ∈ ks, z ∈ N q ∧ 0 ≤ z ∧ z < (n : Int) := fun z hz => hks z (List.mem_cons_of_mem _ hz)
    have hlen := h.len
    have hfew := h.few_
    have hqm := rd_mem qu i hi
    rw [hq] at hqm
    have hqr := h.qr q hqm
    simp only [impl_steps.inn]
    rw [if_pos ⟨hy0, by omega⟩]
    by_cases hneg : rd out y < 0
    · obtain ⟨m, hm, _⟩ : ∃ m : Nat, rd out q = m ∧ Wk N s q m := by
        rcases h.val q hqr.1 hqr.2 with ⟨_, h2⟩ | ⟨_, h2⟩
        · exact absurd hqm h2
        · exact h2
      have hlq := hl q hqm
      rw [if_pos hneg, if_pos ⟨by rw [hq]; omega, by rw [hq]; omega, by omega⟩, hq]
      have hp := h.push hi y ⟨hy0, hy1⟩ hneg (by rw [hq]; exact hyN)
      rw [hq] at hp
      have hyq : y ∉ qu := by
        intro hy2
        rcases h.val y hy0 hy1 with ⟨_, h2⟩ | ⟨_, m2, h2, _⟩
        · exact h2 hy2
        · omega
      have hl2 : Low (out.set y.toNat (rd out q + 1)) (qu ++ [y]) := by
        intro x hx
        rw [List.length_append, List.length_singleton]
        rcases List.mem_append.1 hx with hx | hx
        · have h3 := hl x hx
          rw [rd_set_ne _ _ _ _ ⟨hy0, (h.qr x hx).1, fun e => hyq (e ▸ hx)⟩]
          omega
        · rw [List.mem_singleton.1 hx, rd_set_same _ _ _ ⟨hy0, by omega⟩]
          omega
      obtain ⟨o2, q2, e, h4, h5, h6, h7, h8, h9⟩ := ih _ _ hp hl2 (by rw [List.length_append]; omega) (by rw [rd_app qu y i hi]; exact hq) hks'
      refine ⟨o2, q2, e, h4, h5, h6, h7, fun z hz => h8 z (List.mem_append_left _ hz), fun z hz => ?_⟩
      rcases List.mem_cons.1 hz with rfl | hz
      · exact h8 _ (List.mem_append_right _ (by simp))
      · exact h9 z hz
    · rw [if_neg hneg]
      obtain ⟨o2, q2, e, h4, h5, h6, h7, h8, h9⟩ := ih out qu h hl hi hq hks'
      refine ⟨o2, q2, e, h4, h5, h6, h7, h8, fun z hz => ?_⟩
      rcases List.mem_cons.1 hz with rfl | hz
      · rcases h.val z hy0 hy1 with ⟨h2, _⟩ | ⟨h2, _⟩
        · omega
        · exact h8 z h2
      · exact h9 z hz
theorem lp_ok (nx : Int → Option (List Int)) (N : Int → List Int) (s : Int) (n : Nat) (hn : n ≤ 1000) (hN : ∀ x, 0 ≤ x → x < (n : Int) → nx x = some (N x) ∧ ∀ y ∈ N x, 0 ≤ y ∧ y < (n : Int)) (f : Nat) : ∀ (out qu : List Int) (i : Nat), Bfs N s n out qu i → Low out qu → i ≤ qu.length → n + 1 - i ≤ f →
    ∃ far, impl_steps.lp nx f out qu i = some far ∧ far.length = n ∧ ∀ x, 0 ≤ x ∧ x < (n : Int) → Least N s x (rd far x) := by
  induction f with
  | zero => intro out qu i h _ hi hf; have := h.few_; omega
  | succ f ih =>
    intro out qu i h hl hi hf
    have hfew := h.few_
    rw [impl_steps.lp]
    by_cases hlt : i < qu.length
    · have hqr := h.qr _ (rd_mem qu i hlt)
      obtain ⟨h1, h2⟩ := hN _ hqr.1 hqr.2
      obtain ⟨o2, q2, e, h4, h5, h6, h7, _, h9⟩ := inn_ok N s n hn i _ (N (rd qu (i : Int))) out qu h hl hlt rfl (fun y hy => ⟨hy, h2 y hy⟩)
      rw [if_pos hlt, h1, Option.bind_some, e, Option.bind_some]
      exact ih o2 q2 (i + 1) (h4.next h6 (by rw [h7]; exact h9)) h5 (by omega) (by omega)
    · rw [if_neg hlt]
      exact ⟨out, rfl, h.len, fun x hx => h.done (by omega) x hx⟩
theorem steps_ok (nx : Int → Option (List Int)) (N : Int → List Int) (s : Int) (n : Nat) (h1 : 1 ≤ n) (hn : n ≤ 1000) (hs : 0 ≤ s ∧ s < (n : Int)) (hN : ∀ x, 0 ≤ x → x < (n : Int) → nx x = some (N x) ∧ ∀ y ∈ N x, 0 ≤ y ∧ y < (n : Int)) (f : Nat) (hf : n + 1 ≤ f) :
    ∃ far, impl_steps.g nx f n s = some far ∧ far.length = n ∧ ∀ x, 0 ≤ x ∧ x < (n : Int) → Least N s x (rd far x) := by
  unfold impl_steps.g
  rw [if_pos ⟨⟨h1, hn⟩, hs⟩]
  refine lp_ok nx N s n hn hN f _ _ 0 (Bfs.start N s n hs) ?_ (by simp) (by omega)
  intro x hx
  rw [List.mem_singleton.1 hx, rd_set_same _ _ _ (by simpa using hs)]
  simp
/-- The tables are one. -/
theorem far_one (N : Int → List Int) (s : Int) (n : Nat) (a b : List Int) (ha : a.length = n) (hb : b.length = n) (h1 : ∀ x, 0 ≤ x ∧ x < (n : Int) → Least N s x (rd a x)) (h2 : ∀ x, 0 ≤ x ∧ x < (n : Int) → Least N s x (rd b x)) : a = b := by
  apply List.ext_getElem (by omega)
  intro i h3 h4
  have h5 := Least_one N s (i : Int) _ _ (h1 i (by omega)) (h2 i (by omega))
  rw [rdI a i h3, rdI b i h4] at h5
  exact h5
/-- From some number of rounds on, for each of a few. -/
theorem Ev_few {α : Type} (g : Nat → Int → Option α) (r : Int → α) (n : Nat) (h : ∀ x : Int, 0 ≤ x → x < (n : Int) → Ev (fun k => g k x) (r x)) : ∃ K, ∀ k, K ≤ k → ∀ x : Int, 0 ≤ x → x < (n : Int) → g k x = some (r x) := by
  induction n with
  | zero => exact ⟨0, fun _ _ x h0 h1 => by omega⟩
  | succ n ih =>
    obtain ⟨K, hK⟩ := ih (fun x h0 h1 => h x h0 (by omega))
    obtain ⟨K', hK'⟩ := h (n : Int) (by omega) (by omega)
    refine ⟨max K K', fun k hk x h0 h1 => ?_⟩
    by_cases e : x = (n : Int)
    · subst e; exact hK' k (by omega)
    · exact hK k (by omega) x h0 (by omega)
theorem steps_ev (nx : Nat → Int → Option (List Int)) (N : Int → List Int) (s : Int) (n : Nat) (h1 : 1 ≤ n) (hn : n ≤ 1000) (hs : 0 ≤ s ∧ s < (n : Int)) (hN : ∀ x, 0 ≤ x → x < (n : Int) → Ev (fun k => nx k x) (N x) ∧ ∀ y ∈ N x, 0 ≤ y ∧ y < (n : Int)) :
    ∃ far, Ev (fun k => impl_steps.g (nx k) k n s) far ∧ far.length = n ∧ ∀ x, 0 ≤ x ∧ x < (n : Int) → Least N s x (rd far x) := by
  obtain ⟨K, hK⟩ := Ev_few nx N n (fun x h0 h1 => (hN x h0 h1).1)
  have key := fun k (hk : K ≤ k) (hf : n + 1 ≤ k) => steps_ok (nx k) N s n h1 hn hs (fun x h0 h1 => ⟨hK k hk x h0 h1, (hN x h0 h1).2⟩) k hf
  obtain ⟨far, h2, h3, h4⟩ := key (max K (n + 1)) (by omega) (by omega)
  refine ⟨far, ⟨max K (n + 1), fun k hk => ?_⟩, h3, h4⟩
  obtain ⟨far', h5, h6, h7⟩ := key k (by omega) (by omega)
  show impl_steps.g (nx k) k n s = some far
  rw [h5, far_one N s n far' far h6 h3 h7 h4]
end Go.Proofs.Ytllihaahppelhaa.Pr
namespace Go.Proofs.Ytllihaahppelhaa.Pr
open Go.RowKit Go.Proofs.Ytllihaahppelhaa.P Go.Proofs.YtllihaahppelhaaW.PrintWords Go.Proofs.Ytllihaahppelhaa.E
theorem faTwo (l : List Kn) (hl : l.length ≤ 1073741824) (a b : Int) : Ev (fun k => spec_faTwo.f k l a b) (good l && (inR l a && inR l b)) := by
  unfold spec_faTwo.f
  refine Ev.bind (faWho l hl a) ?_
  rw [← Bool.and_assoc]
  cases good l && inR l a with
  | true =>
    refine ifp rfl (call (l1In _ _ _) (evEq now ?_))
    rw [w64 _ (by omega), Bool.true_and]
    unfold inR
    rw [decide_eq_decide]; omega
  | false => exact ifn (by simp) now
end Go.Proofs.Ytllihaahppelhaa.Pr
namespace Go.Proofs.Ytllihaahppelhaa.Pr
open Go.RowKit Go.Proofs.Ytllihaahppelhaa.P Go.Proofs.YtllihaahppelhaaW.PrintWords Go.Proofs.Ytllihaahppelhaa.E
theorem allIn1 (l : List Kn) (a : Int) : (good l && ([a] : List Int).all (inR l)) = (good l && inR l a) := by simp
theorem allIn2 (l : List Kn) (a b : Int) : (good l && ([a, b] : List Int).all (inR l)) = (good l && (inR l a && inR l b)) := by simp
theorem one_iff (l : List Kn) (a : Int) : (good l && inR l a) = true ↔ Fam l ∧ 0 ≤ a ∧ a < (l.length : Int) := by rw [Bool.and_eq_true, good_iff, inR_iff]
theorem two_iff (l : List Kn) (a b : Int) : (good l && (inR l a && inR l b)) = true ↔ Fam l ∧ (0 ≤ a ∧ a < (l.length : Int)) ∧ 0 ≤ b ∧ b < (l.length : Int) := by rw [Bool.and_eq_true, Bool.and_eq_true, good_iff, inR_iff, inR_iff]
end Go.Proofs.Ytllihaahppelhaa.Pr
namespace Go.Proofs.Ytllihaahppelhaa.Pr
open Go.RowKit Go.Proofs.Ytllihaahppelhaa.P Go.Proofs.YtllihaahppelhaaW.PrintWords Go.Proofs.Ytllihaahppelhaa.E
theorem fidx_get (p : Int → Bool) (L : List Int) (h : ∃ c ∈ L, p c = true) : ∃ i : Nat, ∃ hi : i < L.length, Hlp.fidx p L = (i : Int) ∧ p L[i] = true ∧ ∀ j, (hj : j < i) → p (L[j]'(by omega)) = false := by
  obtain ⟨c, hc, hp⟩ := h
  cases e : L.findIdx? p with
  | none => exact absurd hp (by simp [List.findIdx?_eq_none_iff.1 e c hc])
  | some i =>
    obtain ⟨hi, h1, h2⟩ := List.findIdx?_eq_some_iff_getElem.1 e
    exact ⟨i, hi, by unfold Hlp.fidx; rw [e], h1, fun j hj => by simpa using h2 j hj⟩
theorem ld_l1 (l : List Kn) (b at_ : Int) (far out L : List Int) (r : List Int × Bool) (d : Int) (hat : 0 ≤ at_ ∧ at_ < (far.length : Int)) (hL : L.length ≤ 1000) (hin : ∀ c ∈ L, 0 ≤ c ∧ c < (far.length : Int)) (hd : wrap64 (rd far at_ - 1) = d) (ho : out.length ≤ 1000) (i : Nat) (hi : i < L.length) (h1 : rd far L[i] = d) (h2 : ∀ j, (hj : j < i) → ¬ rd far (L[j]'(by omega)) = d)
    (hr : Ev (fun k => spec_LineDown.l0 k l b far (out ++ [L[i]]) L[i]) r) (n : Nat) : ∀ j : Nat, j ≤ i → i - j ≤ n → Ev (fun k => spec_LineDown.l1 k l b far out at_ L (L.length : Int) (j : Int)) r := by
  have hit : ∀ j : Nat, (hj : j < L.length) → rd far L[j] = d → Ev (fun k => spec_LineDown.l0 k l b far (out ++ [L[j]]) L[j]) r → Ev (fun k => spec_LineDown.l1 k l b far out at_ L (L.length : Int) (j : Int)) r := by
    intro j hj he hr
    have hc := hin L[j] (List.getElem_mem hj)
    refine Ev.step (f := fun k => _) (fun k => by rw [spec_LineDown.l1]) (ifp (by omega) (ifp (by omega) (ifp (by omega) ?_)))
    rw [rdI L j hj, hd]
    exact ifp hc.1 (ifp hc.2 (ifp hat.1 (ifp hat.2 (ifp he (ifp (by omega) hr)))))
  induction n with
  | zero =>
    intro j h3 h4
    obtain rfl : j = i := by omega
    exact hit j hi h1 hr
  | succ n ih =>
    intro j h3 h4
    by_cases e : j = i
    · subst e
      exact hit j hi h1 hr
    · have hj : j < L.length := by omega
      have hc := hin L[j] (List.getElem_mem hj)
      refine Ev.step (f := fun k => _) (fun k => by rw [spec_LineDown.l1]) (ifp (by omega) (ifp (by omega) (ifp (by omega) ?_)))
      rw [rdI L j hj, hd, w64 ((j : Int) + 1) (by omega)]
      exact ifp hc.1 (ifp hc.2 (ifp hat.1 (ifp hat.2 (ifn (h2 j (by omega)) (ih (j + 1) (by omega) (by omega))))))
theorem ld_both (l : List Kn) (hf : Fam l) (b : Int) (hb : 0 ≤ b ∧ b < (l.length : Int)) (far : List Int) (hlen : far.length = l.length) (hfar : ∀ x, 0 ≤ x ∧ x < (l.length : Int) → Least (pp l) b x (rd far x)) (d : Nat) : ∀ (at_ : Int) (out : List Int), 0 ≤ at_ ∧ at_ < (l.length : Int) → rd far at_ = (d : Int) → out.length + d ≤ 1000 →
    ∃ r, r.length = out.length + d ∧ Ev (fun k => spec_LineDown.l0 k l b far out at_) (r, true) ∧ ∀ ch : Int → Option (List Int), (∀ x, 0 ≤ x → x < (l.length : Int) → ch x = some (kids l x)) → ∀ f, d + 1 ≤ f → impl_LineDown.lp ch far b f at_ out = some r := by
  have h14 := hf.1.2
  have hb0 : rd far b = 0 := Least_one (pp l) b b _ _ (hfar b hb) (.inr ⟨0, rfl, .now, fun k _ => Nat.zero_le k⟩)
  induction d with
  | zero =>
    intro at_ out hat hd _
    have e : at_ = b := by
      rcases hfar at_ hat with ⟨h1, _⟩ | ⟨m, h1, h2, _⟩
      · omega
      · obtain rfl : m = 0 := by omega
        exact Wk_zero l b at_ h2
    refine ⟨out, rfl, Ev.step (f := fun k => _) (fun k => by rw [spec_LineDown.l0]) (ifp e now), fun ch _ f hf => ?_⟩
    cases f with
    | zero => omega
    | succ f => rw [impl_LineDown.lp, if_pos e]
  | succ d ih =>
    intro at_ out hat hd ho
    have hne : ¬ at_ = b := by intro e; rw [e, hb0] at hd; omega
    have hkl := kids_len l at_
    have hrange : ∀ c ∈ kids l at_, 0 ≤ c ∧ c < (far.length : Int) := fun c hc => by rw [hlen]; exact ((kids_iff l at_ c).1 hc).1
    have hex : ∃ c ∈ kids l at_, impl_LineDown.pk far (rd far at_ - 1) c = true := by
      rcases hfar at_ hat with ⟨h1, _⟩ | ⟨m, h1, h2, h3⟩
      · omega
      · obtain rfl : m = d + 1 := by omega
        obtain ⟨c, hc, hw⟩ := (Wk_kid l hf b hb at_ d).1 h2
        refine ⟨c, hc, ?_⟩
        unfold impl_LineDown.pk
        rw [decide_eq_true_eq]
        rcases hfar c (by have := hrange c hc; omega) with ⟨_, h5⟩ | ⟨m', h4, h5, h6⟩
        · exact absurd hw (h5 d)
        · have h7 := h6 d hw
          have h8 := h3 (m' + 1) ((Wk_kid l hf b hb at_ m').2 ⟨c, hc, h5⟩)
          omega
    obtain ⟨i, hi, e1, e2, e3⟩ := fidx_get _ _ hex
    unfold impl_LineDown.pk at e2 e3
    simp only [decide_eq_true_eq] at e2
    simp only [decide_eq_false_iff_not] at e3
    have hir := hrange _ (List.getElem_mem hi)
    obtain ⟨r, h1, h2, h3⟩ := ih (kids l at_)[i] (out ++ [(kids l at_)[i]]) (by omega) (by omega) (by simp; omega)
    refine ⟨r, by rw [h1, List.length_append, List.length_singleton]; omega, ?_, fun ch hch f hff => ?_⟩
    · refine Ev.step (f := fun k => _) (fun k => by rw [spec_LineDown.l0]) (ifn hne (Ev.bind (faChildren l (by omega) at_) ?_))
      exact ld_l1 l b at_ far out (kids l at_) (r, true) (rd far at_ - 1) (by omega) (by omega) hrange (w64 _ (by omega)) (by omega) i hi e2 e3 h2 _ 0 (by omega) (Nat.le_refl _)
    · cases f with
      | zero => omega
      | succ f =>
        rw [impl_LineDown.lp, if_neg hne, hch at_ hat.1 hat.2, Option.bind_some, if_pos ⟨⟨by omega, by omega, by omega⟩, hrange, by rw [e1]; omega⟩, e1, rdI _ i hi]
        exact h3 ch hch f (by omega)
theorem Ld_far (l : List Kn) (hf : Fam l) (b : Int) (hb : 0 ≤ b ∧ b < (l.length : Int)) : ∃ far, Ev (fun k => spec_faDown.f k l b) far ∧ Ev (fun k => impl_steps.g (impl_LineDown.nx l) k l.length b) far ∧ far.length = l.length ∧ ∀ x, 0 ≤ x ∧ x < (l.length : Int) → Least (pp l) b x (rd far x) := by
  have h14 := hf.1
  obtain ⟨far, e1, h1, h2⟩ := faDown l hf b hb
  obtain ⟨far', e2, h3, h4⟩ := steps_ev (fun _ => impl_LineDown.nx l) (pp l) b l.length (by omega) (by omega) hb (fun x h0 h1 => ⟨by
    unfold impl_LineDown.nx
    exact ifp ⟨h0, h1⟩ now, fun y hy => by have := Fam_pp l hf x y ⟨h0, h1⟩ hy; omega⟩)
  obtain rfl := far_one _ _ _ far far' h1 h3 h2 h4
  exact ⟨far, e1, e2, h1, h2⟩
theorem Ld_one (l : List Kn) (hl : l.length ≤ 1073741824) (a b : Int) : ∃ v : List Int × Bool, v.1.length ≤ 1000 ∧ Ev (fun k => spec_LineDown.f k l a b) v ∧ Ev (fun k => impl_LineDown.f k l a b) v := by
  have hk := hasKin l hl [a, b]
  rw [allIn2] at hk
  unfold spec_LineDown.f impl_LineDown.f
  by_cases h : (good l && (inR l a && inR l b)) = true
  · obtain ⟨hf, ha, hb⟩ := (two_iff l a b).1 h
    have h14 := hf.1.2
    obtain ⟨far, e1, e2, h1, h2⟩ := Ld_far l hf b hb
    have hbd := Least_bd l hf b a _ hb (h2 a ha)
    by_cases hn : rd far a < 0
    · exact ⟨([], false), by simp, Ev.bind (faTwo l hl a b) (ifp h (Ev.bind e1 (ifp ha.1 (ifp (by omega) (ifp hn now))))), Ev.bind hk (ifp h (Ev.bind e2 (ifp (by omega) (ifp hn now))))⟩
    · obtain ⟨d, hd⟩ := Int.eq_ofNat_of_zero_le (show 0 ≤ rd far a by omega)
      obtain ⟨r, h3, h4, h5⟩ := ld_both l hf b hb far h1 h2 d a [a] ha hd (by simp; omega)
      refine ⟨(r, true), by rw [h3]; simp; omega, Ev.bind (faTwo l hl a b) (ifp h (Ev.bind e1 (ifp ha.1 (ifp (by omega) (ifn hn h4))))), Ev.bind hk (ifp h (Ev.bind e2 (ifp (by omega) (ifn hn (Ev.bind (a := r) ?_ now)))))⟩
      obtain ⟨K, hK⟩ := Ev_few (fun k x => impl_children.f k l x) (kids l) l.length (fun x _ _ => children l (by omega) x)
      exact ⟨max K (d + 1), fun k hk => h5 _ (fun x h0 h1 => hK k (by omega) x h0 h1) k (by omega)⟩
  · exact ⟨([], false), by simp, Ev.bind (faTwo l hl a b) (ifn h now), Ev.bind hk (ifn h now)⟩
end Go.Proofs.Ytllihaahppelhaa.Pr
namespace Go.Proofs.Ytllihaahppelhaa.Pr
open Go.RowKit Go.Proofs.Ytllihaahppelhaa.P Go.Proofs.YtllihaahppelhaaW.PrintWords Go.Proofs.Ytllihaahppelhaa.E
def marks (n : Nat) (m : Int) : List Int := (List.range n).map fun i : Nat => m + (i : Int)
theorem marks_length (n : Nat) (m : Int) : (marks n m).length = n := by simp [marks]
theorem marks_get (n : Nat) (m : Int) (i : Nat) (h : i < n) : (marks n m)[i]'(by rw [marks_length]; exact h) = m + i := by simp [marks]
theorem rd_get (l : List Int) (i : Nat) (h : i < l.length) : rd l (i : Int) = l[i] := by simp [rd, List.getD_eq_getElem?_getD, List.getElem?_eq_getElem h]
theorem eqIntS_l (l : List Int) (hl : l.length ≤ 1099511627776) (n : Nat) : ∀ i : Nat, i ≤ l.length → l.length - i ≤ n → Ev (fun k => laws_eqIntS.l0 k l l (i : Int)) true := by
  induction n with
  | zero =>
    intro i h1 h2
    exact Ev.step (f := fun k => _) (fun k => by rw [laws_eqIntS.l0]) (ifn (by omega) now)
  | succ n ih =>
    intro i h1 h2
    by_cases hi : i < l.length
    · refine Ev.step (f := fun k => _) (fun k => by rw [laws_eqIntS.l0]) (ifp (by omega) (ifp (by omega) (ifp (by omega) (ifp rfl ?_))))
      rw [w64 _ (by omega)]
      exact ih (i + 1) (by omega) (by omega)
    · exact Ev.step (f := fun k => _) (fun k => by rw [laws_eqIntS.l0]) (ifn (by omega) now)
theorem eqIntS (l : List Int) (hl : l.length ≤ 1099511627776) : Ev (fun k => laws_eqIntS.f k l l) true := by
  unfold laws_eqIntS.f
  exact ifp rfl (eqIntS_l l hl _ 0 (by omega) (Nat.le_refl _))
theorem set_mid (l : List Int) (m : Int) (i : Nat) (h : i < l.length) : (marks i m ++ l.drop i).set i (m + i) = marks (i + 1) m ++ l.drop (i + 1) := by
  rw [List.set_append_right _ _ (by rw [marks_length]; exact Nat.le_refl _), marks_length, Nat.sub_self, List.drop_eq_getElem_cons h, List.set_cons_zero]
  simp [marks, List.range_succ]
theorem markIntS_l (l : List Int) (hl : l.length ≤ 1099511627776) (m : Int) (hm : m.natAbs ≤ 4611686018427387904) (n : Nat) : ∀ i : Nat, i ≤ l.length → l.length - i ≤ n →
    Ev (fun k => laws_markIntS.l0 k (marks i m ++ l.drop i) (m + i) (i : Int)) (m + l.length, marks l.length m) := by
  have hlen : ∀ i, i ≤ l.length → (marks i m ++ l.drop i).length = l.length := fun i h => by rw [List.length_append, marks_length, List.length_drop]; omega
  have stop : Ev (fun k => laws_markIntS.l0 k (marks l.length m ++ l.drop l.length) (m + l.length) (l.length : Int)) (m + l.length, marks l.length m) := by
    have h := hlen l.length (Nat.le_refl _)
    refine Ev.step (f := fun k => _) (fun k => by rw [laws_markIntS.l0]) (ifn (by omega) (evEq now ?_))
    rw [List.drop_length, List.append_nil]
  induction n with
  | zero =>
    intro i h1 h2
    obtain rfl : i = l.length := by omega
    exact stop
  | succ n ih =>
    intro i h1 h2
    by_cases hi : i < l.length
    · have h := hlen i h1
      refine Ev.step (f := fun k => _) (fun k => by rw [laws_markIntS.l0]) (ifp (by omega) (ifp (by omega) ?_))
      rw [w64 (m + i + 1) (by omega), w64 (i + 1) (by omega), Int.toNat_natCast, set_mid l m i hi]
      have := ih (i + 1) (by omega) (by omega)
      rw [show ((i + 1 : Nat) : Int) = (i : Int) + 1 from rfl, ← Int.add_assoc] at this
      exact this
    · obtain rfl : i = l.length := by omega
      exact stop
theorem markIntS (l : List Int) (hl : l.length ≤ 1099511627776) (m : Int) (hm : m.natAbs ≤ 4611686018427387904) : Ev (fun k => laws_markIntS.f k l m) (m + l.length, marks l.length m) := by
  have := markIntS_l l hl m hm _ 0 (by omega) (Nat.le_refl _)
  simpa [marks, laws_markIntS.f] using this
theorem heldIntS_l (N : Nat) (hl : N ≤ 1099511627776) (m : Int) (hm : m.natAbs ≤ 4611686018427387904) (n : Nat) : ∀ i : Nat, i ≤ N → N - i ≤ n → Ev (fun k => laws_heldIntS.l0 k (marks N m) (m + i) (i : Int)) (m + N) := by
  have stop : Ev (fun k => laws_heldIntS.l0 k (marks N m) (m + N) (N : Int)) (m + N) :=
    Ev.step (f := fun k => _) (fun k => by rw [laws_heldIntS.l0]) (ifn (by rw [marks_length]; omega) now)
  induction n with
  | zero =>
    intro i h1 h2
    obtain rfl : i = N := by omega
    exact stop
  | succ n ih =>
    intro i h1 h2
    by_cases hi : i < N
    · refine Ev.step (f := fun k => _) (fun k => by rw [laws_heldIntS.l0]) (ifp (by rw [marks_length]; omega) (ifp (by omega) (ifp ?_ ?_)))
      · rw [rd_get _ _ (by rw [marks_length]; exact hi), marks_get N m i hi]
      · rw [w64 (m + i + 1) (by omega), w64 (i + 1) (by omega)]
        have := ih (i + 1) (by omega) (by omega)
        rw [show ((i + 1 : Nat) : Int) = (i : Int) + 1 from rfl, ← Int.add_assoc] at this
        exact this
    · obtain rfl : i = N := by omega
      exact stop
theorem heldIntS (N : Nat) (hl : N ≤ 1099511627776) (m : Int) (hm : m.natAbs ≤ 4611686018427387904) : Ev (fun k => laws_heldIntS.f k (marks N m) m) (m + N) := by
  have := heldIntS_l N hl m hm _ 0 (by omega) (Nat.le_refl _)
  simpa [laws_heldIntS.f] using this
end Go.Proofs.Ytllihaahppelhaa.Pr
namespace Go.Proofs.Ytllihaahppelhaa.Pr
open Go.RowKit Go.Proofs.Ytllihaahppelhaa.P Go.Proofs.YtllihaahppelhaaW.PrintWords Go.Proofs.Ytllihaahppelhaa.E
def marksK (n : Nat) (m : Int) : List Kn := (List.range n).map fun i : Nat => ⟨m + 3 * (i : Int), m + 3 * (i : Int) + 1, m + 3 * (i : Int) + 1 + 1⟩
theorem marksK_length (n : Nat) (m : Int) : (marksK n m).length = n := by simp [marksK]
theorem marksK_get (n : Nat) (m : Int) (i : Nat) (h : i < n) : (marksK n m)[i]'(by rw [marksK_length]; exact h) = ⟨m + 3 * (i : Int), m + 3 * (i : Int) + 1, m + 3 * (i : Int) + 1 + 1⟩ := by simp [marksK]
theorem setK_mid (l : List Kn) (m : Int) (i : Nat) (h : i < l.length) (x : Kn) : (marksK i m ++ l.drop i).set i x = marksK i m ++ x :: l.drop (i + 1) := by
  rw [List.set_append_right _ _ (by rw [marksK_length]; exact Nat.le_refl _), marksK_length, Nat.sub_self, List.drop_eq_getElem_cons h, List.set_cons_zero]
theorem setK_mid2 (l : List Kn) (m : Int) (i : Nat) (x y : Kn) : (marksK i m ++ y :: l.drop (i + 1)).set i x = marksK i m ++ x :: l.drop (i + 1) := by
  rw [List.set_append_right _ _ (by rw [marksK_length]; exact Nat.le_refl _), marksK_length, Nat.sub_self, List.set_cons_zero]
theorem rdK_mid (l : List Kn) (m : Int) (i : Nat) (y : Kn) : rd_T49 (marksK i m ++ y :: l.drop (i + 1)) (i : Int) = y := by
  rw [rdK_get _ i (by simp [marksK_length]), List.getElem_append_right (by rw [marksK_length]; exact Nat.le_refl _)]
  simp only [marksK_length, Nat.sub_self, List.getElem_cons_zero]
theorem marksK_succ (l : List Kn) (m : Int) (i : Nat) : marksK i m ++ (⟨m + 3 * (i : Int), m + 3 * (i : Int) + 1, m + 3 * (i : Int) + 1 + 1⟩ : Kn) :: l.drop (i + 1) = marksK (i + 1) m ++ l.drop (i + 1) := by
  simp [marksK, List.range_succ]
theorem markKinS_l (l : List Kn) (hl : l.length ≤ 1099511627776) (m : Int) (hm : m.natAbs ≤ 4611686018427387904) (n : Nat) : ∀ i : Nat, i ≤ l.length → l.length - i ≤ n →
    Ev (fun k => laws_markKinS.l0 k (marksK i m ++ l.drop i) (m + 3 * i) (i : Int)) (m + 3 * l.length, marksK l.length m) := by
  have hlen : ∀ i, i ≤ l.length → (marksK i m ++ l.drop i).length = l.length := fun i h => by rw [List.length_append, marksK_length, List.length_drop]; omega
  have stop : Ev (fun k => laws_markKinS.l0 k (marksK l.length m ++ l.drop l.length) (m + 3 * l.length) (l.length : Int)) (m + 3 * l.length, marksK l.length m) := by
    have h := hlen l.length (Nat.le_refl _)
    refine Ev.step (f := fun k => _) (fun k => by rw [laws_markKinS.l0]) (ifn (by omega) (evEq now ?_))
    rw [List.drop_length, List.append_nil]
  induction n with
  | zero =>
    intro i h1 h2
    obtain rfl : i = l.length := by omega
    exact stop
  | succ n ih =>
    intro i h1 h2
    by_cases hi : i < l.length
    · have h := hlen i h1
      refine Ev.step (f := fun k => _) (fun k => by rw [laws_markKinS.l0]) (ifp (by omega) (ifp (by omega) ?_))
      simp only [Option.bind_some]
      rw [w64 (m + 3 * i + 1) (by omega), w64 (i + 1) (by omega), w64 (m + 3 * i + 1 + 1) (by omega), w64 _ (by omega), Int.toNat_natCast, setK_mid l m i hi, rdK_mid, setK_mid2, rdK_mid, setK_mid2]
      rw [marksK_succ]
      have := ih (i + 1) (by omega) (by omega)
      rw [show m + 3 * ((i + 1 : Nat) : Int) = m + 3 * (i : Int) + 1 + 1 + 1 by omega] at this
      exact this
    · obtain rfl : i = l.length := by omega
      exact stop
theorem markKinS (l : List Kn) (hl : l.length ≤ 1099511627776) (m : Int) (hm : m.natAbs ≤ 4611686018427387904) : Ev (fun k => laws_markKinS.f k l m) (m + 3 * l.length, marksK l.length m) := by
  have := markKinS_l l hl m hm _ 0 (by omega) (Nat.le_refl _)
  simpa [marksK, laws_markKinS.f] using this
end Go.Proofs.Ytllihaahppelhaa.Pr
namespace Go.Proofs.Ytllihaahppelhaa.Pure
open Go.RowKit Go.Proofs.Ytllihaahppelhaa.P Go.Proofs.Ytllihaahppelhaa.Pr Go.Proofs.Ytllihaahppelhaa.E Go.Proofs.YtllihaahppelhaaW.PrintWords
theorem FnExactLineDown : laws_FnExactLineDown.Pure := by
  intro l a b hl hb _ _ _
  refine Ev.rounds ?_
  unfold laws_FnExactLineDown.f
  refine call (szKinS l (by omega)) ?_
  by_cases hs : l.length ≤ 1048576
  · have hl' : l.length ≤ 1099511627776 := by omega
    have hcl : (conv l).length ≤ 1048576 := by rw [conv_length]; exact hs
    have hc' : (conv l).length ≤ 1099511627776 := by omega
    rw [if_pos hs]
    refine ifn (by omega) ?_
    obtain ⟨v, hv, e1, e2⟩ := Ld_one (conv l) (by omega) a b
    refine Ev.bind (toKinS l hl') (Ev.bind e1 (Ev.bind (toKinS l hl') (Ev.bind e2 (Ev.bind (eqIntS v.1 (by omega)) (ifp rfl ?_)))))
    refine Ev.step (f := fun k => _) (fun k => by rw [laws_FnExactLineDown.j0]) (ifn (by simp) ?_)
    refine Ev.bind (toKinS l hl') (Ev.bind (eqKinS (conv l) hc') (ifp rfl ?_))
    refine Ev.bind (markKinS (conv l) hc' 1 (by decide)) (ifn (by omega) ?_)
    refine Ev.bind (eqIntS v.1 (by omega)) (ifp rfl ?_)
    refine Ev.step (f := fun k => _) (fun k => by rw [laws_FnExactLineDown.j1]) (ifn (by simp) ?_)
    refine Ev.bind (markIntS v.1 (by omega) 1 (by decide)) (Ev.bind (heldIntS v.1.length (by omega) 1 (by decide)) (ifn (by omega) (ifp rfl ?_)))
    refine Ev.bind (toKinS l hl') (Ev.bind e2 (Ev.bind (eqIntS v.1 (by omega)) (ifp rfl ?_)))
    refine Ev.step (f := fun k => _) (fun k => by rw [laws_FnExactLineDown.j2]) (ifn (by simp) ?_)
    exact Ev.bind (heldIntS v.1.length (by omega) 1 (by decide)) (ifn (by omega) (ifp rfl now))
  · rw [if_neg hs]
    exact ifp (by omega) now
end Go.Proofs.Ytllihaahppelhaa.Pure
