/- Closed forms: greatest common divisors, fractions in lowest terms. No condition. -/
import Derived.Test.YtnbolemfldmohaaPx2
import Derived.Test.YtnbolemfldmohaaPx1
import Derived.Test.YtnbolemfldmohaaLwA
import Derived.Test.YtnbolemfldmohaaMth
namespace Go.Proofs.Ytnbolemfldmohaa.Pr
open Go.RowKit Go.Proofs.Ytnbolemfldmohaa.P Go.Proofs.YtnbolemfldmohaaW.PrintWords Go.Proofs.YtnbolemfldmohaaW.PrintMore
open Go.Proofs.Ytnbolemfldmohaa.E Go.Proofs.Ytnbolemfldmohaa.Mth
theorem mx_neg (x : Int) (h : x.natAbs ≤ 9223372036854775807) : mx x (wrap64 (-x)) = (x.natAbs : Int) := by
  rw [w64 _ (by omega)]; unfold mx; split <;> omega
theorem natAbs_tmod_lt (a b : Int) (h : b ≠ 0) : (a.tmod b).natAbs < b.natAbs := by
  rw [Int.natAbs_tmod]; exact Nat.mod_lt _ (by omega)
theorem divisor_l (n : Nat) : ∀ a b : Int, b.natAbs ≤ n → a.natAbs ≤ 4611686018427387904 → b.natAbs ≤ 4611686018427387904 → Ev (fun k => impl_divisor.l0 k a b) (g a b) := by
  induction n with
  | zero =>
    intro a b hb ha _
    have h0 : b = 0 := by omega
    refine Ev.step (f := fun _ => _) (fun k => by rw [impl_divisor.l0]) (ifp h0 ?_)
    rw [mx_neg a (by omega), h0, g_zero]; exact now
  | succ n ih =>
    intro a b hb ha hb2
    refine Ev.step (f := fun k => _) (fun k => by rw [impl_divisor.l0]) ?_
    by_cases h0 : b = 0
    · refine ifp h0 ?_
      rw [mx_neg a (by omega), h0, g_zero]; exact now
    · refine ifn h0 ?_
      rw [← g_step a b h0]
      have := natAbs_tmod_lt a b h0
      exact ih b (a.tmod b) (by omega) hb2 (by omega)
theorem divisor (a b : Int) (ha : a.natAbs ≤ 4611686018427387904) (hb : b.natAbs ≤ 4611686018427387904) : Ev (fun k => impl_divisor.f k a b) (g a b) := divisor_l _ a b (Nat.le_refl _) ha hb
theorem wdiv (a b : Int) (h : b ∣ a) (ha : a.natAbs ≤ 4611686018427387904) : wrap64 (a.tdiv b) = a / b := by
  have := tdivb a b
  rw [w64 _ (by omega), tdiv_of_dvd a b h]
theorem lowest (n d : Int) (hn : n.natAbs ≤ 4611686018427387904) (hd : d.natAbs ≤ 4611686018427387904) (h1 : 1 ≤ d) : Ev (fun k => impl_lowest.f k n d) (lowN n d, lowD n d) := by
  unfold impl_lowest.f
  have hg := g_pos n d (by omega)
  refine Ev.bind (divisor n d hn hd) (ifn (by omega) ?_)
  rw [wdiv n _ (g_dvd_l n d) hn, wdiv d _ (g_dvd_r n d) hd]
  unfold lowN lowD
  rw [if_neg (by omega), if_neg (by omega)]
  exact now
theorem quotient (n d : Int) (hn : n.natAbs ≤ 4611686018427387904) (hd : d.natAbs ≤ 4611686018427387904) (h1 : d ≠ 0) : Ev (fun k => impl_quotient.f k n d) (lowN n d, lowD n d) := by
  unfold impl_quotient.f
  by_cases h : d < 0
  · refine ifp h ?_
    rw [w64 (-n) (by omega), w64 (-d) (by omega)]
    have e := Ev.bind (lowest (-n) (-d) (by omega) (by omega) (by omega)) (f := fun _ bt => some (bt.1, bt.2)) now
    rw [lowN_neg n d h1, lowD_neg n d h1] at e
    exact e
  · exact ifn h (Ev.bind (lowest n d hn hd (by omega)) now)
theorem abs_ (x : Int) (h : x.natAbs ≤ 9223372036854775807) : spec_l1Abs.f x = some (x.natAbs : Int) := by
  unfold spec_l1Abs.f spec_l1Most.f
  rw [w64 _ (by omega)]
  by_cases h : x > -x
  · rw [if_pos h]; simp only [Option.bind_some]; congr 1; omega
  · rw [if_neg h]; simp only [Option.bind_some]; congr 1; omega
theorem raLow_l (n d : Int) (hn : n.natAbs ≤ 4611686018427387904) (hd : d.natAbs ≤ 4611686018427387904) (m : Nat) : ∀ a b : Int, 0 ≤ a → 0 ≤ b → b.natAbs ≤ m → g a b ≠ 0 → g a b ∣ n → g a b ∣ d → Ev (fun k => spec_raLow.l0 k n d a b) (n / g a b, d / g a b) := by
  induction m with
  | zero =>
    intro a b ha hb0 hb hg h1 h2
    have h0 : b = 0 := by omega
    refine Ev.step (f := fun _ => _) (fun k => by rw [spec_raLow.l0]) (ifn (by omega) ?_)
    rw [h0, g_zero] at hg h1 h2 ⊢
    refine ifn (by omega) ?_
    rw [show ((a.natAbs : Nat) : Int) = a from by omega] at h1 h2 ⊢
    rw [wdiv n _ h1 hn, wdiv d _ h2 hd]
    exact now
  | succ m ih =>
    intro a b ha hb0 hb hg h1 h2
    refine Ev.step (f := fun k => _) (fun k => by rw [spec_raLow.l0]) ?_
    by_cases h0 : b = 0
    · refine ifn (by omega) ?_
      rw [h0, g_zero] at hg h1 h2 ⊢
      refine ifn (by omega) ?_
      rw [show ((a.natAbs : Nat) : Int) = a from by omega] at h1 h2 ⊢
      rw [wdiv n _ h1 hn, wdiv d _ h2 hd]
      exact now
    · refine ifp (by omega) (ifn h0 ?_)
      rw [← g_step a b h0] at hg h1 h2 ⊢
      have := natAbs_tmod_lt a b h0
      exact ih b (a.tmod b) hb0 (Int.tmod_nonneg _ ha) (by omega) hg h1 h2
theorem g_abs (n d : Int) : g (n.natAbs : Int) d = g n d := by unfold g Int.gcd; rw [Int.natAbs_natCast]
theorem raLow (n d : Int) (hn : n.natAbs ≤ 4611686018427387904) (hd : d.natAbs ≤ 4611686018427387904) (h1 : d ≠ 0) : Ev (fun k => spec_raLow.f k n d) (lowN n d, lowD n d) := by
  have key : ∀ n d : Int, n.natAbs ≤ 4611686018427387904 → d.natAbs ≤ 4611686018427387904 → 1 ≤ d → Ev (fun k => spec_raLow.j0 k n d) (n / g n d, d / g n d) := by
    intro n d hn hd h1
    refine Ev.step (f := fun k => _) (fun k => by rw [spec_raLow.j0]) (call (abs_ n (by omega)) ?_)
    have hg := g_pos n d (by omega)
    have := raLow_l n d hn hd _ (n.natAbs : Int) d (by omega) (by omega) (Nat.le_refl _) (by rw [g_abs]; omega) (by rw [g_abs]; exact g_dvd_l n d) (by rw [g_abs]; exact g_dvd_r n d)
    rw [g_abs] at this
    exact this
  unfold spec_raLow.f
  by_cases h : d < 0
  · refine ifp h ?_
    rw [w64 (-n) (by omega), w64 (-d) (by omega)]
    refine evEq (key (-n) (-d) (by omega) (by omega) (by omega)) ?_
    unfold lowN lowD; rw [g_neg_l, g_neg_r, if_pos h, if_pos h]
  · refine ifn h (evEq (key n d hn hd (by omega)) ?_)
    unfold lowN lowD; rw [if_neg h, if_neg h]
end Go.Proofs.Ytnbolemfldmohaa.Pr
