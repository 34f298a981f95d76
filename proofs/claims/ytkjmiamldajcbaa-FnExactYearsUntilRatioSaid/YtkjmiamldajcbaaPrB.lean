/- Closed forms: greatest common divisors, fractions in lowest terms, two ages of one denominator. No condition. -/
import Derived.Test.YtkjmiamldajcbaaPx10
import Derived.Test.YtkjmiamldajcbaaPx11
import Derived.Test.YtkjmiamldajcbaaPx1
import Derived.Test.YtkjmiamldajcbaaPrA
import Derived.Test.YtkjmiamldajcbaaMth
namespace Go.Proofs.Ytkjmiamldajcbaa.Pr
open Go.RowKit Go.Proofs.Ytkjmiamldajcbaa.P Go.Proofs.YtkjmiamldajcbaaW.PrintWords Go.Proofs.YtkjmiamldajcbaaW.PrintMore
open Go.Proofs.Ytkjmiamldajcbaa.E Go.Proofs.Ytkjmiamldajcbaa.Mth
theorem mx_neg (x : Int) (h : x.natAbs ≤ 9223372036854775807) : mx x (wrap64 (-x)) = (x.natAbs : Int) := by
  rw [w64 _ (by omega)]; unfold mx; split <;> omega
theorem natAbs_tmod_lt (a b : Int) (h : b ≠ 0) : (a.tmod b).natAbs < b.natAbs := by
  rw [Int.natAbs_tmod]; exact Nat.mod_lt _ (by omega)
theorem divisor_l (n : Nat) : ∀ a b : Int, b.natAbs ≤ n → a.natAbs ≤ 4611686018427387904 → b.natAbs ≤ 4611686018427387904 → Ev (fun k => impl_divisor.l0 k a b) (g a b) := by
  induction n with
  | zero =>
    intro a b hb ha _
    have h0 : b = 0 := by omega
    refine Ev.step (f := fun _ => _) (fun k => by rw [impl_divisor.l0]) (ifp h0 ?_)
    rw [mx_neg a (by omega), h0, g_zero]; exact now
  | succ n ih =>
    intro a b hb ha hb2
    refine Ev.step (f := fun k => _) (fun k => by rw [impl_divisor.l0]) ?_
    by_cases h0 : b = 0
    · refine ifp h0 ?_
      rw [mx_neg a (by omega), h0, g_zero]; exact now
    · refine ifn h0 ?_
      rw [← g_step a b h0]
      have := natAbs_tmod_lt a b h0
      exact ih b (a.tmod b) (by omega) hb2 (by omega)
theorem divisor (a b : Int) (ha : a.natAbs ≤ 4611686018427387904) (hb : b.natAbs ≤ 4611686018427387904) : Ev (fun k => impl_divisor.f k a b) (g a b) := divisor_l _ a b (Nat.le_refl _) ha hb
theorem wdiv (a b : Int) (h : b ∣ a) (ha : a.natAbs ≤ 4611686018427387904) : wrap64 (a.tdiv b) = a / b := by
  have := tdivb a b
  rw [w64 _ (by omega), tdiv_of_dvd a b h]
theorem lowest (n d : Int) (hn : n.natAbs ≤ 4611686018427387904) (hd : d.natAbs ≤ 4611686018427387904) (h1 : 1 ≤ d) : Ev (fun k => impl_lowest.f k n d) (lowN n d, lowD n d) := by
  unfold impl_lowest.f
  have hg := g_pos n d (by omega)
  refine Ev.bind (divisor n d hn hd) (ifn (by omega) ?_)
  rw [wdiv n _ (g_dvd_l n d) hn, wdiv d _ (g_dvd_r n d) hd]
  unfold lowN lowD
  rw [if_neg (by omega), if_neg (by omega)]
  exact now
theorem quotient (n d : Int) (hn : n.natAbs ≤ 4611686018427387904) (hd : d.natAbs ≤ 4611686018427387904) (h1 : d ≠ 0) : Ev (fun k => impl_quotient.f k n d) (lowN n d, lowD n d) := by
  unfold impl_quotient.f
  by_cases h : d < 0
  · refine ifp h ?_
    rw [w64 (-n) (by omega), w64 (-d) (by omega)]
    have e := Ev.bind (lowest (-n) (-d) (by omega) (by omega) (by omega)) (f := fun _ bt => some (bt.1, bt.2)) now
    rw [lowN_neg n d h1, lowD_neg n d h1] at e
    exact e
  · exact ifn h (Ev.bind (lowest n d hn hd (by omega)) now)
theorem abs_ (x : Int) (h : x.natAbs ≤ 9223372036854775807) : spec_l1Abs.f x = some (x.natAbs : Int) := by
  unfold spec_l1Abs.f spec_l1Most.f
  rw [w64 _ (by omega)]
  by_cases h : x > -x
  · rw [if_pos h]; simp only [Option.bind_some]; congr 1; omega
  · rw [if_neg h]; simp only [Option.bind_some]; congr 1; omega
theorem raLow_l (n d : Int) (hn : n.natAbs ≤ 4611686018427387904) (hd : d.natAbs ≤ 4611686018427387904) (m : Nat) : ∀ a b : Int, 0 ≤ a → 0 ≤ b → b.natAbs ≤ m → g a b ≠ 0 → g a b ∣ n → g a b ∣ d → Ev (fun k => spec_raLow.l0 k n d a b) (n / g a b, d / g a b) := by
  induction m with
  | zero =>
    intro a b ha hb0 hb hg h1 h2
    have h0 : b = 0 := by omega
    refine Ev.step (f := fun _ => _) (fun k => by rw [spec_raLow.l0]) (ifn (by omega) ?_)
    rw [h0, g_zero] at hg h1 h2 ⊢
    refine ifn (by omega) ?_
    rw [show ((a.natAbs : Nat) : Int) = a from by omega] at h1 h2 ⊢
    rw [wdiv n _ h1 hn, wdiv d _ h2 hd]
    exact now
  | succ m ih =>
    intro a b ha hb0 hb hg h1 h2
    refine Ev.step (f := fun k => _) (fun k => by rw [spec_raLow.l0]) ?_
    by_cases h0 : b = 0
    · refine ifn (by omega) ?_
      rw [h0, g_zero] at hg h1 h2 ⊢
      refine ifn (by omega) ?_
      rw [show ((a.natAbs : Nat) : Int) = a from by omega] at h1 h2 ⊢
      rw [wdiv n _ h1 hn, wdiv d _ h2 hd]
      exact now
    · refine ifp (by omega) (ifn h0 ?_)
      rw [← g_step a b h0] at hg h1 h2 ⊢
      have := natAbs_tmod_lt a b h0
      exact ih b (a.tmod b) hb0 (Int.tmod_nonneg _ ha) (by omega) hg h1 h2
theorem g_abs (n d : Int) : g (n.natAbs : Int) d = g n d := by unfold g Int.gcd; rw [Int.natAbs_natCast]
theorem raLow (n d : Int) (hn : n.natAbs ≤ 4611686018427387904) (hd : d.natAbs ≤ 4611686018427387904) (h1 : d ≠ 0) : Ev (fun k => spec_raLow.f k n d) (lowN n d, lowD n d) := by
  have key : ∀ n d : Int, n.natAbs ≤ 4611686018427387904 → d.natAbs ≤ 4611686018427387904 → 1 ≤ d → Ev (fun k => spec_raLow.j0 k n d) (n / g n d, d / g n d) := by
    intro n d hn hd h1
    refine Ev.step (f := fun k => _) (fun k => by rw [spec_raLow.j0]) (call (abs_ n (by omega)) ?_)
    have hg := g_pos n d (by omega)
    have := raLow_l n d hn hd _ (n.natAbs : Int) d (by omega) (by omega) (Nat.le_refl _) (by rw [g_abs]; omega) (by rw [g_abs]; exact g_dvd_l n d) (by rw [g_abs]; exact g_dvd_r n d)
    rw [g_abs] at this
    exact this
  unfold spec_raLow.f
  by_cases h : d < 0
  · refine ifp h ?_
    rw [w64 (-n) (by omega), w64 (-d) (by omega)]
    refine evEq (key (-n) (-d) (by omega) (by omega) (by omega)) ?_
    unfold lowN lowD; rw [g_neg_l, g_neg_r, if_pos h, if_pos h]
  · refine ifn h (evEq (key n d hn hd (by omega)) ?_)
    unfold lowN lowD; rw [if_neg h, if_neg h]
/-- Two ages of one denominator. -/
def three (n1 n2 d : Int) : Int × Int × Int := (lowN n1 d * (lcm (lowD n1 d) (lowD n2 d) / lowD n1 d), lowN n2 d * (lcm (lowD n1 d) (lowD n2 d) / lowD n2 d), lcm (lowD n1 d) (lowD n2 d))
theorem lowD_bd (n d : Int) (h1 : d ≠ 0) (hd : d.natAbs ≤ 10000) : 1 ≤ lowD n d ∧ lowD n d ≤ 10000 := by
  have := lowD_pos n d h1
  have := lowD_le n d h1
  split at this <;> omega
theorem lcm_bd (y v : Int) (hy : 1 ≤ y ∧ y ≤ 10000) (hv : 1 ≤ v ∧ v ≤ 10000) : y ≤ lcm y v ∧ lcm y v ≤ 100000000 ∧ (lcm y v / y).natAbs ≤ 10000 ∧ (lcm y v / v).natAbs ≤ 10000 ∧ y ∣ lcm y v ∧ v ∣ lcm y v := by
  have h1 := part_pos y v hv.1
  have h2 := part_pos_l y v hy.1 hv.1
  have e := lcm_eq y v
  have e2 : lcm y v = y / g y v * v := rfl
  have b1 := mulb y (v / g y v) 10000 10000 (by omega) (by omega)
  have b2 : y * 1 ≤ y * (v / g y v) := Int.mul_le_mul_of_nonneg_left h1.1 (by omega)
  refine ⟨by omega, by omega, ?_, ?_, ⟨_, e⟩, ⟨y / g y v, by rw [e2, Int.mul_comm]⟩⟩
  · rw [e, Int.mul_ediv_cancel_left _ (by omega)]; omega
  · rw [e2, Int.mul_ediv_cancel _ (by omega)]; omega
theorem twoAges (n1 n2 d : Int) (hn1 : n1.natAbs ≤ 2000000) (hn2 : n2.natAbs ≤ 2000000) (hd : d.natAbs ≤ 10000) (h1 : d ≠ 0) : Ev (fun k => impl_twoAges.f k n1 d n2 d) (three n1 n2 d) := by
  unfold impl_twoAges.f
  have b1 := lowD_bd n1 d h1 hd
  have b2 := lowD_bd n2 d h1 hd
  have a1 := lowN_abs n1 d h1
  have a2 := lowN_abs n2 d h1
  have hg := g_pos (lowD n1 d) (lowD n2 d) (by omega)
  have hl := lcm_bd _ _ b1 b2
  have hp := part_pos_l (lowD n1 d) (lowD n2 d) (by omega) (by omega)
  refine Ev.bind (quotient n1 d (by omega) (by omega) h1) (Ev.bind (quotient n2 d (by omega) (by omega) h1) ?_)
  dsimp only
  refine Ev.bind (divisor (lowD n1 d) (lowD n2 d) (by omega) (by omega)) (ifn (by omega) (ifn (by omega) (ifn (by omega) ?_)))
  have e : wrap64 (wrap64 (Int.tdiv (lowD n1 d) (g (lowD n1 d) (lowD n2 d))) * lowD n2 d) = lcm (lowD n1 d) (lowD n2 d) := by
    rw [wdiv _ _ (g_dvd_l _ _) (by omega), w64 _ (by have := mulb (lowD n1 d / g (lowD n1 d) (lowD n2 d)) (lowD n2 d) 10000 10000 (by omega) (by omega); omega)]
    rfl
  rw [e, wdiv _ _ hl.2.2.2.2.1 (by omega), wdiv _ _ hl.2.2.2.2.2 (by omega), w64 _ (by have := mulb _ _ 2000000 10000 (show (lowN n1 d).natAbs ≤ 2000000 by omega) hl.2.2.1; omega), w64 _ (by have := mulb _ _ 2000000 10000 (show (lowN n2 d).natAbs ≤ 2000000 by omega) hl.2.2.2.1; omega)]
  exact now
theorem raThree_l (x y u v : Int) (hx : x.natAbs ≤ 2000000) (hu : u.natAbs ≤ 2000000) (hy : 1 ≤ y ∧ y ≤ 10000) (hv : 1 ≤ v ∧ v ≤ 10000) (n : Nat) : ∀ m : Int, 1 ≤ m → m ≤ v / g y v → (v / g y v - m).natAbs ≤ n →
    Ev (fun k => spec_raThree.l0 k x y u v (y * m)) (x * (lcm y v / y), u * (lcm y v / v), lcm y v) := by
  have hl := lcm_bd y v hy hv
  have hp := part_pos y v hv.1
  induction n with
  | zero =>
    intro m h1 h2 hn
    have hm : m = v / g y v := by omega
    refine Ev.step (f := fun k => _) (fun k => by rw [spec_raThree.l0]) (ifn (by omega) (ifp ?_ (ifn (by omega) ?_)))
    · rw [hm, ← lcm_eq]
      obtain ⟨c, hc⟩ := hl.2.2.2.2.2
      rw [hc]; simp
    · rw [hm, ← lcm_eq, wdiv _ _ hl.2.2.2.2.1 (by omega), wdiv _ _ hl.2.2.2.2.2 (by omega), w64 _ (by have := mulb _ _ 2000000 10000 hx hl.2.2.1; omega), w64 _ (by have := mulb _ _ 2000000 10000 hu hl.2.2.2.1; omega)]
      exact now
  | succ n ih =>
    intro m h1 h2 hn
    by_cases hm : m = v / g y v
    · refine Ev.step (f := fun k => _) (fun k => by rw [spec_raThree.l0]) (ifn (by omega) (ifp ?_ (ifn (by omega) ?_)))
      · rw [hm, ← lcm_eq]
        obtain ⟨c, hc⟩ := hl.2.2.2.2.2
        rw [hc]; simp
      · rw [hm, ← lcm_eq, wdiv _ _ hl.2.2.2.2.1 (by omega), wdiv _ _ hl.2.2.2.2.2 (by omega), w64 _ (by have := mulb _ _ 2000000 10000 hx hl.2.2.1; omega), w64 _ (by have := mulb _ _ 2000000 10000 hu hl.2.2.2.1; omega)]
        exact now
    · refine Ev.step (f := fun k => _) (fun k => by rw [spec_raThree.l0]) (ifn (by omega) (ifn ?_ ?_))
      · intro h0
        have h3 : v ∣ y * m := Int.dvd_of_tmod_eq_zero h0
        have h4 := (dvd_mul_iff y v hv.1 m).1 h3
        have := Int.le_of_dvd (by omega) h4
        omega
      · have hb := mulb y m 10000 10000 (by omega) (by omega)
        rw [w64 _ (by omega), show y * m + y = y * (m + 1) by rw [Int.mul_add, Int.mul_one]]
        exact ih (m + 1) (by omega) (by omega) (by omega)
theorem raThree (n1 n2 d : Int) (hn1 : n1.natAbs ≤ 2000000) (hn2 : n2.natAbs ≤ 2000000) (hd : d.natAbs ≤ 10000) (h1 : d ≠ 0) : Ev (fun k => spec_raThree.f k n1 n2 d) (three n1 n2 d) := by
  unfold spec_raThree.f
  have b1 := lowD_bd n1 d h1 hd
  have b2 := lowD_bd n2 d h1 hd
  have a1 := lowN_abs n1 d h1
  have a2 := lowN_abs n2 d h1
  refine Ev.bind (raLow n1 d (by omega) (by omega) h1) (Ev.bind (raLow n2 d (by omega) (by omega) h1) ?_)
  have := raThree_l (lowN n1 d) (lowD n1 d) (lowN n2 d) (lowD n2 d) (by omega) (by omega) b1 b2 _ 1 (by omega) (part_pos _ _ (by omega)).1 (Nat.le_refl _)
  rw [Int.mul_one] at this
  exact this
end Go.Proofs.Ytkjmiamldajcbaa.Pr
