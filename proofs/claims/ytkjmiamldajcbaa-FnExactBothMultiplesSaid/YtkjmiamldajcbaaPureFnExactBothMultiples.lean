/- The program's BothMultiples returns what the reference's returns, for all arguments. No condition. -/
import Derived.Test.YtkjmiamldajcbaaPx9
import Derived.Test.YtkjmiamldajcbaaPxHimplqareBetween
import Derived.Test.YtkjmiamldajcbaaPrC
import Derived.Test.YtkjmiamldajcbaaPrS
namespace Go.Proofs.Ytkjmiamldajcbaa.Pure
open Go.RowKit Go.Proofs.Ytkjmiamldajcbaa.P Go.Proofs.Ytkjmiamldajcbaa.Pr Go.Proofs.YtkjmiamldajcbaaW.PrintWords Go.Proofs.YtkjmiamldajcbaaW.PrintMore Go.Proofs.Ytkjmiamldajcbaa.E Go.Proofs.Ytkjmiamldajcbaa.Mth
namespace BothMultiples
theorem same (k : Nat) : ∀ (a b c : Int) (acc : List Int) (t : Int), impl_BothMultiples.l0 k a b c acc t = spec_BothMultiples.l0 k a b c acc t := by
  induction k with
  | zero => intros; rfl
  | succ k ih =>
    intro a b c acc t
    simp only [impl_BothMultiples.l0, spec_BothMultiples.l0, ih]
theorem loop (a b c : Int) (ha : 0 ≤ a ∧ a ≤ 120) (hb : 0 ≤ b ∧ b ≤ 120) (hc : 0 ≤ c ∧ c ≤ 120) (n : Nat) : ∀ (t : Int) (acc : List Int), 1 - b ≤ t → 1 - c ≤ t → -200 ≤ t → (121 - t).toNat ≤ n → acc.length + (121 - t).toNat ≤ 1000 →
    ∃ l : List Int, l.length ≤ 1000 ∧ Ev (fun k => spec_BothMultiples.l0 k a b c acc t) (l, true) := by
  induction n with
  | zero =>
    intro t acc h0 h1 h4 h2 h3
    exact ⟨acc, by omega, Ev.step (f := fun k => _) (fun k => by rw [spec_BothMultiples.l0]) (ifn (by omega) now)⟩
  | succ n ih =>
    intro t acc h0 h1 h4 h2 h3
    by_cases ht : t ≤ 120
    · obtain ⟨l1, hl1, e1⟩ := ih (t + 1) (acc ++ [t]) (by omega) (by omega) (by omega) (by omega) (by simp; omega)
      obtain ⟨l2, hl2, e2⟩ := ih (t + 1) acc (by omega) (by omega) (by omega) (by omega) (by omega)
      have start : ∀ r, Ev (fun k => if t ≤ 120 then (if b + t = 0 then none else (if Int.tmod (a + t) (b + t) = 0 then (if wrap64 (Int.tdiv (a + t) (b + t)) ≥ 2 then (if c + t = 0 then none else (if Int.tmod (b + t) (c + t) = 0 then (if wrap64 (Int.tdiv (b + t) (c + t)) ≥ 2 then (if acc.length < 17592186044416 then spec_BothMultiples.l0 k a b c (acc ++ [t]) (t + 1) else none) else spec_BothMultiples.l0 k a b c acc (t + 1)) else spec_BothMultiples.l0 k a b c acc (t + 1))) else spec_BothMultiples.l0 k a b c acc (t + 1)) else spec_BothMultiples.l0 k a b c acc (t + 1))) else some (acc, true)) r → Ev (fun k => spec_BothMultiples.l0 k a b c acc t) r := by
        intro r h
        refine Ev.step (f := fun k => _) (fun k => by rw [spec_BothMultiples.l0]) ?_
        rw [w64 (b + t) (by omega), w64 (a + t) (by omega), w64 (c + t) (by omega), w64 (t + 1) (by omega)]
        exact h
      by_cases m1 : Int.tmod (a + t) (b + t) = 0
      · by_cases m2 : wrap64 (Int.tdiv (a + t) (b + t)) ≥ 2
        · by_cases m3 : Int.tmod (b + t) (c + t) = 0
          · by_cases m4 : wrap64 (Int.tdiv (b + t) (c + t)) ≥ 2
            · exact ⟨l1, hl1, start _ (ifp ht (ifn (by omega) (ifp m1 (ifp m2 (ifn (by omega) (ifp m3 (ifp m4 (ifp (by omega) e1))))))))⟩
            · exact ⟨l2, hl2, start _ (ifp ht (ifn (by omega) (ifp m1 (ifp m2 (ifn (by omega) (ifp m3 (ifn m4 e2)))))))⟩
          · exact ⟨l2, hl2, start _ (ifp ht (ifn (by omega) (ifp m1 (ifp m2 (ifn (by omega) (ifn m3 e2))))))⟩
        · exact ⟨l2, hl2, start _ (ifp ht (ifn (by omega) (ifp m1 (ifn m2 e2))))⟩
      · exact ⟨l2, hl2, start _ (ifp ht (ifn (by omega) (ifn m1 e2)))⟩
    · exact ⟨acc, by omega, Ev.step (f := fun k => _) (fun k => by rw [spec_BothMultiples.l0]) (ifn ht now)⟩
def ok (a b c : Int) : Prop := (0 ≤ a ∧ a ≤ 120) ∧ (0 ≤ b ∧ b ≤ 120) ∧ 0 ≤ c ∧ c ≤ 120
instance (a b c : Int) : Decidable (ok a b c) := by unfold ok; exact inferInstance
theorem spec_no (a b c : Int) : Ev (fun k => spec_BothMultiples.j0 k a b c true) ([], false) :=
  Ev.step (f := fun k => _) (fun k => by rw [spec_BothMultiples.j0]) (ifp rfl now)
theorem both (a b c : Int) : ∃ v : List Int × Bool, v.1.length ≤ 1000 ∧ Ev (fun k => spec_BothMultiples.f k a b c) v ∧ Ev (fun k => impl_BothMultiples.f k a b c) v := by
  have e : ([a, b, c].all fun n => decide (0 ≤ n) && decide (n ≤ 120)) = decide (ok a b c) := by
    rw [Bool.eq_iff_iff, decide_eq_true_iff]
    unfold ok
    simp only [List.all_cons, List.all_nil, Bool.and_true, Bool.and_eq_true, decide_eq_true_eq]
  unfold spec_BothMultiples.f impl_BothMultiples.f
  by_cases h : ok a b c
  · have h' := h
    obtain ⟨ha, hb, hc⟩ := h'
    obtain ⟨l, hl, e1⟩ := loop a b c ha hb hc _ (1 - min a (min b c)) [] (by omega) (by omega) (by omega) (Nat.le_refl _) (by simp; omega)
    refine ⟨(l, true), hl, ?_, ?_⟩
    · refine call (raAge a) (ifp (by simpa using ha) (call (raAge b) (ifp (by simpa using hb) (call (raAge c) ?_))))
      rw [decide_eq_true hc]
      refine Ev.step (f := fun k => _) (fun k => by rw [spec_BothMultiples.j0]) (ifn (by simp) (call (least b c) (call (least a _) ?_)))
      rw [w64 _ (by omega)]; exact e1
    · refine call (show impl_areBetween.f [a, b, c] 0 120 = some _ from rfl) ?_
      rw [e]
      refine ifp (by simpa using h) ?_
      rw [mn_, mn_, show min (min a b) c = min a (min b c) by omega, w64 _ (by omega)]
      exact e1.congr fun k => same k _ _ _ _ _
  · refine ⟨([], false), by simp, ?_, ?_⟩
    · refine call (raAge a) ?_
      by_cases h1 : 0 ≤ a ∧ a ≤ 120
      · refine ifp (by simpa using h1) (call (raAge b) ?_)
        by_cases h2 : 0 ≤ b ∧ b ≤ 120
        · refine ifp (by simpa using h2) (call (raAge c) ?_)
          rw [decide_eq_false (fun h3 => h ⟨h1, h2, h3⟩)]
          exact spec_no a b c
        · exact ifn (by simpa using h2) (spec_no a b c)
      · exact ifn (by simpa using h1) (spec_no a b c)
    · refine call (show impl_areBetween.f [a, b, c] 0 120 = some _ from rfl) ?_
      rw [e]
      exact ifn (by simpa using h) now
end BothMultiples
theorem FnExactBothMultiples : laws_FnExactBothMultiples.Pure := by
  intro a b c _ _ _
  refine Ev.rounds ?_
  obtain ⟨⟨l, ok⟩, hl, e1, e2⟩ := BothMultiples.both a b c
  have hl : l.length ≤ 1000 := hl
  unfold laws_FnExactBothMultiples.f
  refine Ev.bind e1 (Ev.bind e2 (Ev.bind (eqIntS l (by omega)) (ifp rfl ?_)))
  refine Ev.step (f := fun k => _) (fun k => by rw [laws_FnExactBothMultiples.j0]) (ifn (by simp) ?_)
  refine Ev.bind (markIntS l (by omega) 1 (by decide)) (Ev.bind (heldIntS l.length (by omega) 1 (by decide)) (ifn (by omega) (ifp rfl (Ev.bind e2 (Ev.bind (eqIntS l (by omega)) (ifp rfl ?_))))))
  refine Ev.step (f := fun k => _) (fun k => by rw [laws_FnExactBothMultiples.j1]) (ifn (by simp) ?_)
  exact Ev.bind (heldIntS l.length (by omega) 1 (by decide)) (ifn (by omega) (ifp rfl now))
end Go.Proofs.Ytkjmiamldajcbaa.Pure
