/- Closed forms: years that are a quotient, if all ages are greater than 0 then. No condition. -/
import Derived.Test.YtkjmiamldajcbaaPx12
import Derived.Test.YtkjmiamldajcbaaPx1
import Derived.Test.YtkjmiamldajcbaaPx2
import Derived.Test.YtkjmiamldajcbaaPrB
namespace Go.Proofs.Ytkjmiamldajcbaa.Pr
open Go.RowKit Go.Proofs.Ytkjmiamldajcbaa.P Go.Proofs.YtkjmiamldajcbaaW.PrintWords Go.Proofs.YtkjmiamldajcbaaW.PrintMore
open Go.Proofs.Ytkjmiamldajcbaa.E Go.Proofs.Ytkjmiamldajcbaa.Mth
theorem raAge (a : Int) : spec_raAge.f a = some (decide (0 ≤ a ∧ a ≤ 120)) := by unfold spec_raAge.f; rw [l1In]; rfl
theorem isAge (a : Int) : impl_isAge.f a = some (decide (0 ≤ a ∧ a ≤ 120)) := by unfold impl_isAge.f; rw [between]; rfl
theorem least (a b : Int) : spec_l1Least.f a b = some (min a b) := by
  unfold spec_l1Least.f
  by_cases h : a < b
  · rw [if_pos h]; congr 1; omega
  · rw [if_neg h]; congr 1; omega
theorem most (a b : Int) : spec_l1Most.f a b = some (max a b) := by
  unfold spec_l1Most.f
  by_cases h : a > b
  · rw [if_pos h]; congr 1; omega
  · rw [if_neg h]; congr 1; omega
theorem mn_ (a b : Int) : mn a b = min a b := by unfold mn; split <;> omega
theorem mx_ (a b : Int) : mx a b = max a b := by unfold mx; split <;> omega
def two (a b : Int) : Bool := decide (0 ≤ a ∧ a ≤ 120) && (decide (0 ≤ b ∧ b ≤ 120) && (a != b))
theorem raTwo (a b : Int) : spec_raTwo.f a b = some (two a b) := by
  unfold spec_raTwo.f two
  simp only [raAge, Option.bind_some]
  by_cases h1 : 0 ≤ a ∧ a ≤ 120 <;> by_cases h2 : 0 ≤ b ∧ b ≤ 120 <;> simp [h1, h2]
theorem areUnlike (a b : Int) : impl_areUnlike.f a b = some (two a b) := raTwo a b
def allLater (n d : Int) (l : List Int) : Bool := l.all fun a => decide (0 < a * d + n)
theorem yearsOf_l (n d : Int) (l : List Int) (hl : ∀ x ∈ l, x.natAbs ≤ 120) (hn : n.natAbs ≤ 2000000) (hd : d.natAbs ≤ 10000) (hs : l.length ≤ 1000) (m : Nat) : ∀ i : Nat, i ≤ l.length → l.length - i ≤ m →
    Ev (fun k => impl_yearsOf.l0 k n d l (l.length : Int) (i : Int)) (if allLater n d (l.drop i) = true then (n, d, true) else (0, 0, false)) := by
  induction m with
  | zero =>
    intro i h1 h2
    have hi : i = l.length := by omega
    subst hi
    refine Ev.step (f := fun k => _) (fun k => by rw [impl_yearsOf.l0]) (ifn (by omega) ?_)
    simp only [List.drop_length, allLater, List.all_nil, if_true]; exact now
  | succ m ih =>
    intro i h1 h2
    by_cases hi : i = l.length
    · subst hi
      refine Ev.step (f := fun k => _) (fun k => by rw [impl_yearsOf.l0]) (ifn (by omega) ?_)
      simp only [List.drop_length, allLater, List.all_nil, if_true]; exact now
    · have hlt : i < l.length := by omega
      have hr : rd l (i : Int) = l[i] := by simp [rd, List.getD_eq_getElem?_getD, List.getElem?_eq_getElem hlt]
      have hx := hl l[i] (List.getElem_mem hlt)
      have m1 := mulb l[i] d 120 10000 hx hd
      refine Ev.step (f := fun k => _) (fun k => by rw [impl_yearsOf.l0]) (ifp (by omega) (ifp (by omega) (ifp (by omega) ?_)))
      rw [hr]
      refine call (b := decide (0 < l[i] * d + n)) (by unfold impl_isLater.f; rw [w64 (l[i] * d) (by omega), w64 _ (by omega)]) ?_
      rw [List.drop_eq_getElem_cons hlt]
      by_cases h3 : 0 < l[i] * d + n
      · refine ifp (by simpa using h3) ?_
        rw [w64 _ (by omega)]
        have := ih (i + 1) (by omega) (by omega)
        rw [show ((i + 1 : Nat) : Int) = (i : Int) + 1 from rfl] at this
        refine evEq this ?_
        simp only [allLater, List.all_cons, h3, decide_true, Bool.true_and]
        rfl
      · refine ifn (by simpa using h3) (evEq now ?_)
        simp only [allLater, List.all_cons, h3, decide_false, Bool.false_and]
        rfl
theorem yearsOf (n d : Int) (l : List Int) (hl : ∀ x ∈ l, x.natAbs ≤ 120) (hn : n.natAbs ≤ 2000000) (hd : d.natAbs ≤ 10000) (hs : l.length ≤ 1000) :
    Ev (fun k => impl_yearsOf.f k n d l) (if d ≠ 0 ∧ allLater (lowN n d) (lowD n d) l = true then (lowN n d, lowD n d, true) else (0, 0, false)) := by
  unfold impl_yearsOf.f
  by_cases h : d = 0
  · refine ifp h (evEq now ?_)
    rw [if_neg (by simp [h])]
  · have a1 := lowN_abs n d h
    have a2 := lowD_bd n d h hd
    refine ifn h (Ev.bind (quotient n d (by omega) (by omega) h) ?_)
    have := yearsOf_l (lowN n d) (lowD n d) l hl (by omega) (by omega) hs _ 0 (by omega) (Nat.le_refl _)
    refine evEq this ?_
    simp [h]
end Go.Proofs.Ytkjmiamldajcbaa.Pr
