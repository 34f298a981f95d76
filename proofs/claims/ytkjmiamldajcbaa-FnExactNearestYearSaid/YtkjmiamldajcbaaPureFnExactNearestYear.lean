/- The program's NearestYear returns what the reference's returns, for all arguments. No condition. -/
import Derived.Test.YtkjmiamldajcbaaPx3
import Derived.Test.YtkjmiamldajcbaaPrC
namespace Go.Proofs.Ytkjmiamldajcbaa.Pure
open Go.RowKit Go.Proofs.Ytkjmiamldajcbaa.P Go.Proofs.Ytkjmiamldajcbaa.Pr Go.Proofs.YtkjmiamldajcbaaW.PrintWords Go.Proofs.YtkjmiamldajcbaaW.PrintMore Go.Proofs.Ytkjmiamldajcbaa.E Go.Proofs.Ytkjmiamldajcbaa.Mth
namespace NearestYear
theorem lt_scale (x y q : Int) (hq : 1 ≤ q) : x * q < y * q ↔ x < y := by
  constructor
  · intro h
    rcases Int.lt_or_le x y with h1 | h1
    · exact h1
    · have := Int.mul_le_mul_of_nonneg_right h1 (show 0 ≤ q by omega)
      omega
  · intro h
    have := Int.mul_le_mul_of_nonneg_right (show x + 1 ≤ y by omega) (show 0 ≤ q by omega)
    rw [Int.add_mul] at this
    omega
theorem loop (a b p q : Int) (ha : 0 ≤ a ∧ a ≤ 120) (hb : 0 ≤ b ∧ b ≤ 120) (hp : 1 ≤ p ∧ p ≤ 100) (hq : 1 ≤ q ∧ q ≤ 100) (n : Nat) : ∀ (t best num den off by_ : Int) (found : Bool), 1 - b ≤ t → -200 ≤ t → (121 - t).toNat ≤ n →
    (found = false ∧ num = -1 ∨ found = true ∧ num = off ∧ (0 ≤ off ∧ off ≤ 100000) ∧ (1 ≤ by_ ∧ by_ ≤ 240) ∧ den = by_ * q) →
    ∃ v : Int × Bool, Ev (fun k => spec_NearestYear.l0 k a b best num den t p q) v ∧ Ev (fun k => impl_NearestYear.l0 k a b best off by_ found t p q) v := by
  induction n with
  | zero =>
    intro t best num den off by_ found h0 h1 h2 h3
    exact ⟨(best, true), Ev.step (f := fun k => _) (fun k => by rw [spec_NearestYear.l0]) (ifn (by omega) now), Ev.step (f := fun k => _) (fun k => by rw [impl_NearestYear.l0]) (ifn (by omega) now)⟩
  | succ n ih =>
    intro t best num den off by_ found h0 h1 h2 h3
    by_cases ht : t ≤ 120
    · have m1 := mulb (a + t) q 320 100 (by omega) (by omega)
      have m2 := mulb p (b + t) 100 240 (by omega) (by omega)
      have m3 := mulb (b + t) q 240 100 (by omega) (by omega)
      have hd : ∃ d : Int, d = (((a + t) * q - p * (b + t)).natAbs : Int) ∧ 0 ≤ d ∧ d ≤ 100000 := ⟨_, rfl, by omega, by omega⟩
      obtain ⟨d, hd, hd0, hd1⟩ := hd
      have s1 : ∀ r, Ev (fun k => if t ≤ 120 then ((some d : Option Int).bind fun t149 => (if num < 0 then (spec_NearestYear.l0 k a b t t149 ((b + t) * q) (t + 1) p q) else (if (wrap64 (t149 * den)) < (wrap64 (num * ((b + t) * q))) then (spec_NearestYear.l0 k a b t t149 ((b + t) * q) (t + 1) p q) else (spec_NearestYear.l0 k a b best num den (t + 1) p q)))) else (some (best, true))) r → Ev (fun k => spec_NearestYear.l0 k a b best num den t p q) r := by
        intro r h
        refine Ev.step (f := fun k => _) (fun k => by rw [spec_NearestYear.l0]) ?_
        rw [w64 (a + t) (by omega), w64 (b + t) (by omega), w64 (t + 1) (by omega), w64 ((a + t) * q) (by omega), w64 (p * (b + t)) (by omega), w64 ((b + t) * q) (by omega), w64 ((a + t) * q - p * (b + t)) (by omega), abs_ _ (by omega), ← hd]
        exact h
      have s2 : ∀ r, Ev (fun k => if t ≤ 120 then (if found = true then (if (wrap64 (d * by_)) < (wrap64 (off * (b + t))) then (impl_NearestYear.l0 k a b t d (b + t) true (t + 1) p q) else (impl_NearestYear.l0 k a b best off by_ found (t + 1) p q)) else (impl_NearestYear.l0 k a b t d (b + t) true (t + 1) p q)) else (some (best, true))) r → Ev (fun k => impl_NearestYear.l0 k a b best off by_ found t p q) r := by
        intro r h
        refine Ev.step (f := fun k => _) (fun k => by rw [impl_NearestYear.l0]) ?_
        rw [w64 (a + t) (by omega), w64 (b + t) (by omega), w64 (t + 1) (by omega), w64 ((a + t) * q) (by omega), w64 (p * (b + t)) (by omega), w64 ((a + t) * q - p * (b + t)) (by omega), mx_neg _ (by omega), ← hd]
        exact h
      rcases h3 with ⟨hf, hn⟩ | ⟨hf, hn, ho, hby, hden⟩
      · obtain ⟨v, e1, e2⟩ := ih (t + 1) t d ((b + t) * q) d (b + t) true (by omega) (by omega) (by omega) (.inr ⟨rfl, rfl, ⟨hd0, hd1⟩, by omega, rfl⟩)
        exact ⟨v, s1 _ (ifp ht (call rfl (ifp (by omega) e1))), s2 _ (ifp ht (ifn (by simp [hf]) e2))⟩
      · have m4 := mulb d by_ 100000 240 (by omega) (by omega)
        have m5 := mulb off (b + t) 100000 240 (by omega) (by omega)
        have m6 := mulb (d * by_) q _ 100 m4 (by omega)
        have m7 := mulb (off * (b + t)) q _ 100 m5 (by omega)
        have e5 : d * den = d * by_ * q := by rw [hden, Int.mul_assoc]
        have e6 : num * ((b + t) * q) = off * (b + t) * q := by rw [hn, Int.mul_assoc]
        by_cases hc : d * by_ < off * (b + t)
        · obtain ⟨v, e1, e2⟩ := ih (t + 1) t d ((b + t) * q) d (b + t) true (by omega) (by omega) (by omega) (.inr ⟨rfl, rfl, ⟨hd0, hd1⟩, by omega, rfl⟩)
          refine ⟨v, s1 _ (ifp ht (call rfl (ifn (by omega) (ifp ?_ e1)))), s2 _ (ifp ht (ifp hf (ifp ?_ e2)))⟩
          · rw [e5, e6, w64 _ (by omega), w64 _ (by omega)]; exact (lt_scale _ _ q hq.1).2 hc
          · rw [w64 _ (by omega), w64 _ (by omega)]; exact hc
        · obtain ⟨v, e1, e2⟩ := ih (t + 1) best num den off by_ found (by omega) (by omega) (by omega) (.inr ⟨hf, hn, ho, hby, hden⟩)
          refine ⟨v, s1 _ (ifp ht (call rfl (ifn (by omega) (ifn ?_ e1)))), s2 _ (ifp ht (ifp hf (ifn ?_ e2)))⟩
          · rw [e5, e6, w64 _ (by omega), w64 _ (by omega)]; exact fun h => hc ((lt_scale _ _ q hq.1).1 h)
          · rw [w64 _ (by omega), w64 _ (by omega)]; exact hc
    · exact ⟨(best, true), Ev.step (f := fun k => _) (fun k => by rw [spec_NearestYear.l0]) (ifn ht now), Ev.step (f := fun k => _) (fun k => by rw [impl_NearestYear.l0]) (ifn ht now)⟩
theorem spec_no (a b p q : Int) : Ev (fun k => spec_NearestYear.j0 k a b true p q) (0, false) := Ev.step (f := fun k => _) (fun k => by rw [spec_NearestYear.j0]) (ifp rfl now)
theorem impl_no (a b p q : Int) : Ev (fun k => impl_NearestYear.j0 k a b true p q) (0, false) := Ev.step (f := fun k => _) (fun k => by rw [impl_NearestYear.j0]) (ifp rfl now)
theorem both (a b p q : Int) : ∃ v : Int × Bool, Ev (fun k => spec_NearestYear.f k a b p q) v ∧ Ev (fun k => impl_NearestYear.f k a b p q) v := by
  unfold spec_NearestYear.f impl_NearestYear.f
  by_cases h : two a b = true
  · have h' : (0 ≤ a ∧ a ≤ 120) ∧ 0 ≤ b ∧ b ≤ 120 := by
      unfold two at h; simp at h; omega
    by_cases hg : good p q = true
    · have hp := (good_iff p q).1 hg
      obtain ⟨v, e1, e2⟩ := loop a b p q (by omega) (by omega) (by omega) (by omega) _ (1 - min a b) 0 (-1) 1 0 1 false (by omega) (by omega) (Nat.le_refl _) (.inl ⟨rfl, rfl⟩)
      refine ⟨v, call (raTwo a b) (ifp h (call (raGood p q) ?_)), call (areUnlike a b) (ifp h (call (isRatio p q) ?_))⟩
      · rw [hg]
        refine Ev.step (f := fun k => _) (fun k => by rw [spec_NearestYear.j0]) (ifn (by simp) (call (least a b) ?_))
        rw [w64 _ (by omega)]; exact e1
      · rw [hg]
        refine Ev.step (f := fun k => _) (fun k => by rw [impl_NearestYear.j0]) (ifn (by simp) ?_)
        rw [mn_, w64 _ (by omega)]; exact e2
    · have hg : good p q = false := by simpa using hg
      refine ⟨(0, false), call (raTwo a b) (ifp h (call (raGood p q) ?_)), call (areUnlike a b) (ifp h (call (isRatio p q) ?_))⟩
      · rw [hg]; exact spec_no a b p q
      · rw [hg]; exact impl_no a b p q
  · exact ⟨(0, false), call (raTwo a b) (ifn h (spec_no a b p q)), call (areUnlike a b) (ifn h (impl_no a b p q))⟩
end NearestYear
theorem FnExactNearestYear : laws_FnExactNearestYear.Pure := by
  intro a b p q _ _ _ _
  refine Ev.rounds ?_
  obtain ⟨v, e1, e2⟩ := NearestYear.both a b p q
  unfold laws_FnExactNearestYear.f
  refine call (toRatio p q) (Ev.bind e1 (call (toRatio p q) (Ev.bind e2 ?_)))
  exact ifp rfl (ifn (by simp) now)
end Go.Proofs.Ytkjmiamldajcbaa.Pure
