/- The law RatiosFound holds, whatever the bytes. No condition. -/
import Derived.Test.YtnbolemfldmohaaPx6
import Derived.Test.YtnbolemfldmohaaPx2
import Derived.Test.YtnbolemfldmohaaPx5
import Derived.Test.YtnbolemfldmohaaPx4
import Derived.Test.YtnbolemfldmohaaPx3
import Derived.Test.YtnbolemfldmohaaEv
import Derived.Test.YtnbolemfldmohaaMth
import Derived.WalkSmall
namespace Go.Proofs.Ytnbolemfldmohaa.Pr
open Go.RowKit Go.Proofs.Ytnbolemfldmohaa.P Go.Proofs.YtnbolemfldmohaaW.PrintWords
theorem l1In (a lo hi : Int) : spec_l1In.f a lo hi = some (decide (lo ≤ a ∧ a ≤ hi)) := by
  unfold spec_l1In.f
  by_cases h : a ≥ lo
  · rw [if_pos h]; congr 1; simp; omega
  · rw [if_neg h]; congr 1; simp; omega
theorem between (a lo hi : Int) : impl_between.f a lo hi = some (decide (lo ≤ a ∧ a ≤ hi)) := l1In a lo hi
def good (a b : Int) : Bool := decide ((1 ≤ a ∧ a ≤ 100) ∧ 1 ≤ b ∧ b ≤ 100)
theorem isRatio (a b : Int) : impl_IsRatio.f a b = some (good a b) := by
  unfold impl_IsRatio.f good
  simp only [between, Option.bind_some]
  by_cases h : 1 ≤ a ∧ a ≤ 100 <;> simp [h]
theorem raGood (a b : Int) : spec_raGood.f a b = some (good a b) := isRatio a b
theorem good_iff (a b : Int) : good a b = true ↔ 1 ≤ a ∧ a ≤ 100 ∧ 1 ≤ b ∧ b ≤ 100 := by unfold good; simp; omega
end Go.Proofs.Ytnbolemfldmohaa.Pr
namespace Go.Proofs.Ytnbolemfldmohaa.Pr
open Go.RowKit Go.Proofs.Ytnbolemfldmohaa.P Go.Proofs.YtnbolemfldmohaaW.PrintWords Go.Proofs.YtnbolemfldmohaaW.PrintMore
open Go.Proofs.Ytnbolemfldmohaa.E Go.Proofs.Ytnbolemfldmohaa.Mth
theorem mx_neg (x : Int) (h : x.natAbs ≤ 9223372036854775807) : mx x (wrap64 (-x)) = (x.natAbs : Int) := by
  rw [w64 _ (by omega)]; unfold mx; split <;> omega
theorem natAbs_tmod_lt (a b : Int) (h : b ≠ 0) : (a.tmod b).natAbs < b.natAbs := by
  rw [Int.natAbs_tmod]; exact Nat.mod_lt _ (by omega)
theorem divisor_l (n : Nat) : ∀ a b : Int, b.natAbs ≤ n → a.natAbs ≤ 4611686018427387904 → b.natAbs ≤ 4611686018427387904 → Ev (fun k => impl_divisor.l0 k a b) (g a b) := by
  induction n with
  | zero =>
    intro a b hb ha _
    have h0 : b = 0 := by omega
    refine Ev.step (f := fun _ => _) (fun k => by rw [impl_divisor.l0]) (ifp h0 ?_)
    rw [mx_neg a (by omega), h0, g_zero]; exact now
  | succ n ih =>
    intro a b hb ha hb2
    refine Ev.step (f := fun k => _) (fun k => by rw [impl_divisor.l0]) ?_
    by_cases h0 : b = 0
    · refine ifp h0 ?_
      rw [mx_neg a (by omega), h0, g_zero]; exact now
    · refine ifn h0 ?_
      rw [← g_step a b h0]
      have := natAbs_tmod_lt a b h0
      exact ih b (a.tmod b) (by omega) hb2 (by omega)
theorem divisor (a b : Int) (ha : a.natAbs ≤ 4611686018427387904) (hb : b.natAbs ≤ 4611686018427387904) : Ev (fun k => impl_divisor.f k a b) (g a b) := divisor_l _ a b (Nat.le_refl _) ha hb
theorem wdiv (a b : Int) (h : b ∣ a) (ha : a.natAbs ≤ 4611686018427387904) : wrap64 (a.tdiv b) = a / b := by
  have := tdivb a b
  rw [w64 _ (by omega), tdiv_of_dvd a b h]
theorem lowest (n d : Int) (hn : n.natAbs ≤ 4611686018427387904) (hd : d.natAbs ≤ 4611686018427387904) (h1 : 1 ≤ d) : Ev (fun k => impl_lowest.f k n d) (lowN n d, lowD n d) := by
  unfold impl_lowest.f
  have hg := g_pos n d (by omega)
  refine Ev.bind (divisor n d hn hd) (ifn (by omega) ?_)
  rw [wdiv n _ (g_dvd_l n d) hn, wdiv d _ (g_dvd_r n d) hd]
  unfold lowN lowD
  rw [if_neg (by omega), if_neg (by omega)]
  exact now
theorem quotient (n d : Int) (hn : n.natAbs ≤ 4611686018427387904) (hd : d.natAbs ≤ 4611686018427387904) (h1 : d ≠ 0) : Ev (fun k => impl_quotient.f k n d) (lowN n d, lowD n d) := by
  unfold impl_quotient.f
  by_cases h : d < 0
  · refine ifp h ?_
    rw [w64 (-n) (by omega), w64 (-d) (by omega)]
    have e := Ev.bind (lowest (-n) (-d) (by omega) (by omega) (by omega)) (f := fun _ bt => some (bt.1, bt.2)) now
    rw [lowN_neg n d h1, lowD_neg n d h1] at e
    exact e
  · exact ifn h (Ev.bind (lowest n d hn hd (by omega)) now)
theorem abs_ (x : Int) (h : x.natAbs ≤ 9223372036854775807) : spec_l1Abs.f x = some (x.natAbs : Int) := by
  unfold spec_l1Abs.f spec_l1Most.f
  rw [w64 _ (by omega)]
  by_cases h : x > -x
  · rw [if_pos h]; simp only [Option.bind_some]; congr 1; omega
  · rw [if_neg h]; simp only [Option.bind_some]; congr 1; omega
theorem raLow_l (n d : Int) (hn : n.natAbs ≤ 4611686018427387904) (hd : d.natAbs ≤ 4611686018427387904) (m : Nat) : ∀ a b : Int, 0 ≤ a → 0 ≤ b → b.natAbs ≤ m → g a b ≠ 0 → g a b ∣ n → g a b ∣ d → Ev (fun k => spec_raLow.l0 k n d a b) (n / g a b, d / g a b) := by
  induction m with
  | zero =>
    intro a b ha hb0 hb hg h1 h2
    have h0 : b = 0 := by omega
    refine Ev.step (f := fun _ => _) (fun k => by rw [spec_raLow.l0]) (ifn (by omega) ?_)
    rw [h0, g_zero] at hg h1 h2 ⊢
    refine ifn (by omega) ?_
    rw [show ((a.natAbs : Nat) : Int) = a from by omega] at h1 h2 ⊢
    rw [wdiv n _ h1 hn, wdiv d _ h2 hd]
    exact now
  | succ m ih =>
    intro a b ha hb0 hb hg h1 h2
    refine Ev.step (f := fun k => _) (fun k => by rw [spec_raLow.l0]) ?_
    by_cases h0 : b = 0
    · refine ifn (by omega) ?_
      rw [h0, g_zero] at hg h1 h2 ⊢
      refine ifn (by omega) ?_
      rw [show ((a.natAbs : Nat) : Int) = a from by omega] at h1 h2 ⊢
      rw [wdiv n _ h1 hn, wdiv d _ h2 hd]
      exact now
    · refine ifp (by omega) (ifn h0 ?_)
      rw [← g_step a b h0] at hg h1 h2 ⊢
      have := natAbs_tmod_lt a b h0
      exact ih b (a.tmod b) hb0 (Int.tmod_nonneg _ ha) (by omega) hg h1 h2
theorem g_abs (n d : Int) : g (n.natAbs : Int) d = g n d := by unfold g Int.gcd; rw [Int.natAbs_natCast]
theorem raLow (n d : Int) (hn : n.natAbs ≤ 4611686018427387904) (hd : d.natAbs ≤ 4611686018427387904) (h1 : d ≠ 0) : Ev (fun k => spec_raLow.f k n d) (lowN n d, lowD n d) := by
  have key : ∀ n d : Int, n.natAbs ≤ 4611686018427387904 → d.natAbs ≤ 4611686018427387904 → 1 ≤ d → Ev (fun k => spec_raLow.j0 k n d) (n / g n d, d / g n d) := by
    intro n d hn hd h1
    refine Ev.step (f := fun k => _) (fun k => by rw [spec_raLow.j0]) (call (abs_ n (by omega)) ?_)
    have hg := g_pos n d (by omega)
    have := raLow_l n d hn hd _ (n.natAbs : Int) d (by omega) (by omega) (Nat.le_refl _) (by rw [g_abs]; omega) (by rw [g_abs]; exact g_dvd_l n d) (by rw [g_abs]; exact g_dvd_r n d)
    rw [g_abs] at this
    exact this
  unfold spec_raLow.f
  by_cases h : d < 0
  · refine ifp h ?_
    rw [w64 (-n) (by omega), w64 (-d) (by omega)]
    refine evEq (key (-n) (-d) (by omega) (by omega) (by omega)) ?_
    unfold lowN lowD; rw [g_neg_l, g_neg_r, if_pos h, if_pos h]
  · refine ifn h (evEq (key n d hn hd (by omega)) ?_)
    unfold lowN lowD; rw [if_neg h, if_neg h]
/-- Two ages of one denominator. -/
def three (n1 n2 d : Int) : Int × Int × Int := (lowN n1 d * (lcm (lowD n1 d) (lowD n2 d) / lowD n1 d), lowN n2 d * (lcm (lowD n1 d) (lowD n2 d) / lowD n2 d), lcm (lowD n1 d) (lowD n2 d))
theorem lowD_bd (n d : Int) (h1 : d ≠ 0) (hd : d.natAbs ≤ 10000) : 1 ≤ lowD n d ∧ lowD n d ≤ 10000 := by
  have := lowD_pos n d h1
  have := lowD_le n d h1
  split at this <;> omega
theorem lcm_bd (y v : Int) (hy : 1 ≤ y ∧ y ≤ 10000) (hv : 1 ≤ v ∧ v ≤ 10000) : y ≤ lcm y v ∧ lcm y v ≤ 100000000 ∧ (lcm y v / y).natAbs ≤ 10000 ∧ (lcm y v / v).natAbs ≤ 10000 ∧ y ∣ lcm y v ∧ v ∣ lcm y v := by
  have h1 := part_pos y v hv.1
  have h2 := part_pos_l y v hy.1 hv.1
  have e := lcm_eq y v
  have e2 : lcm y v = y / g y v * v := rfl
  have b1 := mulb y (v / g y v) 10000 10000 (by omega) (by omega)
  have b2 : y * 1 ≤ y * (v / g y v) := Int.mul_le_mul_of_nonneg_left h1.1 (by omega)
  refine ⟨by omega, by omega, ?_, ?_, ⟨_, e⟩, ⟨y / g y v, by rw [e2, Int.mul_comm]⟩⟩
  · rw [e, Int.mul_ediv_cancel_left _ (by omega)]; omega
  · rw [e2, Int.mul_ediv_cancel _ (by omega)]; omega
theorem twoAges (n1 n2 d : Int) (hn1 : n1.natAbs ≤ 2000000) (hn2 : n2.natAbs ≤ 2000000) (hd : d.natAbs ≤ 10000) (h1 : d ≠ 0) : Ev (fun k => impl_twoAges.f k n1 d n2 d) (three n1 n2 d) := by
  unfold impl_twoAges.f
  have b1 := lowD_bd n1 d h1 hd
  have b2 := lowD_bd n2 d h1 hd
  have a1 := lowN_abs n1 d h1
  have a2 := lowN_abs n2 d h1
  have hg := g_pos (lowD n1 d) (lowD n2 d) (by omega)
  have hl := lcm_bd _ _ b1 b2
  have hp := part_pos_l (lowD n1 d) (lowD n2 d) (by omega) (by omega)
  refine Ev.bind (quotient n1 d (by omega) (by omega) h1) (Ev.bind (quotient n2 d (by omega) (by omega) h1) ?_)
  dsimp only
  refine Ev.bind (divisor (lowD n1 d) (lowD n2 d) (by omega) (by omega)) (ifn (by omega) (ifn (by omega) (ifn (by omega) ?_)))
  have e : wrap64 (wrap64 (Int.tdiv (lowD n1 d) (g (lowD n1 d) (lowD n2 d))) * lowD n2 d) = lcm (lowD n1 d) (lowD n2 d) := by
    rw [wdiv _ _ (g_dvd_l _ _) (by omega), w64 _ (by have := mulb (lowD n1 d / g (lowD n1 d) (lowD n2 d)) (lowD n2 d) 10000 10000 (by omega) (by omega); omega)]
    rfl
  rw [e, wdiv _ _ hl.2.2.2.2.1 (by omega), wdiv _ _ hl.2.2.2.2.2 (by omega), w64 _ (by have := mulb _ _ 2000000 10000 (show (lowN n1 d).natAbs ≤ 2000000 by omega) hl.2.2.1; omega), w64 _ (by have := mulb _ _ 2000000 10000 (show (lowN n2 d).natAbs ≤ 2000000 by omega) hl.2.2.2.1; omega)]
  exact now
theorem raThree_l (x y u v : Int) (hx : x.natAbs ≤ 2000000) (hu : u.natAbs ≤ 2000000) (hy : 1 ≤ y ∧ y ≤ 10000) (hv : 1 ≤ v ∧ v ≤ 10000) (n : Nat) : ∀ m : Int, 1 ≤ m → m ≤ v / g y v → (v / g y v - m).natAbs ≤ n →
    Ev (fun k => spec_raThree.l0 k x y u v (y * m)) (x * (lcm y v / y), u * (lcm y v / v), lcm y v) := by
  have hl := lcm_bd y v hy hv
  have hp := part_pos y v hv.1
  induction n with
  | zero =>
    intro m h1 h2 hn
    have hm : m = v / g y v := by omega
    refine Ev.step (f := fun k => _) (fun k => by rw [spec_raThree.l0]) (ifn (by omega) (ifp ?_ (ifn (by omega) ?_)))
    · rw [hm, ← lcm_eq]
      obtain ⟨c, hc⟩ := hl.2.2.2.2.2
      rw [hc]; simp
    · rw [hm, ← lcm_eq, wdiv _ _ hl.2.2.2.2.1 (by omega), wdiv _ _ hl.2.2.2.2.2 (by omega), w64 _ (by have := mulb _ _ 2000000 10000 hx hl.2.2.1; omega), w64 _ (by have := mulb _ _ 2000000 10000 hu hl.2.2.2.1; omega)]
      exact now
  | succ n ih =>
    intro m h1 h2 hn
    by_cases hm : m = v / g y v
    · refine Ev.step (f := fun k => _) (fun k => by rw [spec_raThree.l0]) (ifn (by omega) (ifp ?_ (ifn (by omega) ?_)))
      · rw [hm, ← lcm_eq]
        obtain ⟨c, hc⟩ := hl.2.2.2.2.2
        rw [hc]; simp
      · rw [hm, ← lcm_eq, wdiv _ _ hl.2.2.2.2.1 (by omega), wdiv _ _ hl.2.2.2.2.2 (by omega), w64 _ (by have := mulb _ _ 2000000 10000 hx hl.2.2.1; omega), w64 _ (by have := mulb _ _ 2000000 10000 hu hl.2.2.2.1; omega)]
        exact now
    · refine Ev.step (f := fun k => _) (fun k => by rw [spec_raThree.l0]) (ifn (by omega) (ifn ?_ ?_))
      · intro h0
        have h3 : v ∣ y * m := Int.dvd_of_tmod_eq_zero h0
        have h4 := (dvd_mul_iff y v hv.1 m).1 h3
        have := Int.le_of_dvd (by omega) h4
        omega
      · have hb := mulb y m 10000 10000 (by omega) (by omega)
        rw [w64 _ (by omega), show y * m + y = y * (m + 1) by rw [Int.mul_add, Int.mul_one]]
        exact ih (m + 1) (by omega) (by omega) (by omega)
theorem raThree (n1 n2 d : Int) (hn1 : n1.natAbs ≤ 2000000) (hn2 : n2.natAbs ≤ 2000000) (hd : d.natAbs ≤ 10000) (h1 : d ≠ 0) : Ev (fun k => spec_raThree.f k n1 n2 d) (three n1 n2 d) := by
  unfold spec_raThree.f
  have b1 := lowD_bd n1 d h1 hd
  have b2 := lowD_bd n2 d h1 hd
  have a1 := lowN_abs n1 d h1
  have a2 := lowN_abs n2 d h1
  refine Ev.bind (raLow n1 d (by omega) (by omega) h1) (Ev.bind (raLow n2 d (by omega) (by omega) h1) ?_)
  have := raThree_l (lowN n1 d) (lowD n1 d) (lowN n2 d) (lowD n2 d) (by omega) (by omega) b1 b2 _ 1 (by omega) (part_pos _ _ (by omega)).1 (Nat.le_refl _)
  rw [Int.mul_one] at this
  exact this
end Go.Proofs.Ytnbolemfldmohaa.Pr
namespace Go.Proofs.Ytnbolemfldmohaa.Pr
open Go.RowKit Go.Proofs.Ytnbolemfldmohaa.P Go.Proofs.YtnbolemfldmohaaW.PrintWords Go.Proofs.YtnbolemfldmohaaW.PrintMore
open Go.Proofs.Ytnbolemfldmohaa.E Go.Proofs.Ytnbolemfldmohaa.Mth
theorem raAge (a : Int) : spec_raAge.f a = some (decide (0 ≤ a ∧ a ≤ 120)) := by unfold spec_raAge.f; rw [l1In]; rfl
theorem isAge (a : Int) : impl_isAge.f a = some (decide (0 ≤ a ∧ a ≤ 120)) := by unfold impl_isAge.f; rw [between]; rfl
theorem least (a b : Int) : spec_l1Least.f a b = some (min a b) := by
  unfold spec_l1Least.f
  by_cases h : a < b
  · rw [if_pos h]; congr 1; omega
  · rw [if_neg h]; congr 1; omega
theorem most (a b : Int) : spec_l1Most.f a b = some (max a b) := by
  unfold spec_l1Most.f
  by_cases h : a > b
  · rw [if_pos h]; congr 1; omega
  · rw [if_neg h]; congr 1; omega
theorem mn_ (a b : Int) : mn a b = min a b := by unfold mn; split <;> omega
theorem mx_ (a b : Int) : mx a b = max a b := by unfold mx; split <;> omega
def two (a b : Int) : Bool := decide (0 ≤ a ∧ a ≤ 120) && (decide (0 ≤ b ∧ b ≤ 120) && (a != b))
theorem raTwo (a b : Int) : spec_raTwo.f a b = some (two a b) := by
  unfold spec_raTwo.f two
  simp only [raAge, Option.bind_some]
  by_cases h1 : 0 ≤ a ∧ a ≤ 120 <;> by_cases h2 : 0 ≤ b ∧ b ≤ 120 <;> simp [h1, h2]
theorem areUnlike (a b : Int) : impl_areUnlike.f a b = some (two a b) := raTwo a b
def allLater (n d : Int) (l : List Int) : Bool := l.all fun a => decide (0 < a * d + n)
theorem yearsOf_l (n d : Int) (l : List Int) (hl : ∀ x ∈ l, x.natAbs ≤ 120) (hn : n.natAbs ≤ 2000000) (hd : d.natAbs ≤ 10000) (hs : l.length ≤ 1000) (m : Nat) : ∀ i : Nat, i ≤ l.length → l.length - i ≤ m →
    Ev (fun k => impl_yearsOf.l0 k n d l (l.length : Int) (i : Int)) (if allLater n d (l.drop i) = true then (n, d, true) else (0, 0, false)) := by
  induction m with
  | zero =>
    intro i h1 h2
    have hi : i = l.length := by omega
    subst hi
    refine Ev.step (f := fun k => _) (fun k => by rw [impl_yearsOf.l0]) (ifn (by omega) ?_)
    simp only [List.drop_length, allLater, List.all_nil, if_true]; exact now
  | succ m ih =>
    intro i h1 h2
    by_cases hi : i = l.length
    · subst hi
      refine Ev.step (f := fun k => _) (fun k => by rw [impl_yearsOf.l0]) (ifn (by omega) ?_)
      simp only [List.drop_length, allLater, List.all_nil, if_true]; exact now
    · have hlt : i < l.length := by omega
      have hr : rd l (i : Int) = l[i] := by simp [rd, List.getD_eq_getElem?_getD, List.getElem?_eq_getElem hlt]
      have hx := hl l[i] (List.getElem_mem hlt)
      have m1 := mulb l[i] d 120 10000 hx hd
      refine Ev.step (f := fun k => _) (fun k => by rw [impl_yearsOf.l0]) (ifp (by omega) (ifp (by omega) (ifp (by omega) ?_)))
      rw [hr]
      refine call (b := decide (0 < l[i] * d + n)) (by unfold impl_isLater.f; rw [w64 (l[i] * d) (by omega), w64 _ (by omega)]) ?_
      rw [List.drop_eq_getElem_cons hlt]
      by_cases h3 : 0 < l[i] * d + n
      · refine ifp (by simpa using h3) ?_
        rw [w64 _ (by omega)]
        have := ih (i + 1) (by omega) (by omega)
        rw [show ((i + 1 : Nat) : Int) = (i : Int) + 1 from rfl] at this
        refine evEq this ?_
        simp only [allLater, List.all_cons, h3, decide_true, Bool.true_and]
        rfl
      · refine ifn (by simpa using h3) (evEq now ?_)
        simp only [allLater, List.all_cons, h3, decide_false, Bool.false_and]
        rfl
theorem yearsOf (n d : Int) (l : List Int) (hl : ∀ x ∈ l, x.natAbs ≤ 120) (hn : n.natAbs ≤ 2000000) (hd : d.natAbs ≤ 10000) (hs : l.length ≤ 1000) :
    Ev (fun k => impl_yearsOf.f k n d l) (if d ≠ 0 ∧ allLater (lowN n d) (lowD n d) l = true then (lowN n d, lowD n d, true) else (0, 0, false)) := by
  unfold impl_yearsOf.f
  by_cases h : d = 0
  · refine ifp h (evEq now ?_)
    rw [if_neg (by simp [h])]
  · have a1 := lowN_abs n d h
    have a2 := lowD_bd n d h hd
    refine ifn h (Ev.bind (quotient n d (by omega) (by omega) h) ?_)
    have := yearsOf_l (lowN n d) (lowD n d) l hl (by omega) (by omega) hs _ 0 (by omega) (Nat.le_refl _)
    refine evEq this ?_
    simp [h]
end Go.Proofs.Ytnbolemfldmohaa.Pr
namespace Go.Proofs.Ytnbolemfldmohaa.Pr
open Go.RowKit Go.Proofs.Ytnbolemfldmohaa.P Go.Proofs.YtnbolemfldmohaaW.PrintWords Go.Proofs.YtnbolemfldmohaaW.PrintMore Go.Proofs.Ytnbolemfldmohaa.E Go.Proofs.Ytnbolemfldmohaa.Mth
theorem three_neg (n1 n2 d : Int) (h : d ≠ 0) : three (-n1) (-n2) (-d) = three n1 n2 d := by
  unfold three
  rw [lowN_neg n1 d h, lowN_neg n2 d h, lowD_neg n1 d h, lowD_neg n2 d h]
theorem three_bd (n1 n2 d : Int) (hn1 : n1.natAbs ≤ 2000000) (hn2 : n2.natAbs ≤ 2000000) (hd : d.natAbs ≤ 10000) (h : d ≠ 0) : (three n1 n2 d).1.natAbs ≤ 20000000000 ∧ (three n1 n2 d).2.1.natAbs ≤ 20000000000 ∧ 1 ≤ (three n1 n2 d).2.2 ∧ (three n1 n2 d).2.2 ≤ 100000000 := by
  have b1 := lowD_bd n1 d h hd
  have b2 := lowD_bd n2 d h hd
  have a1 := lowN_abs n1 d h
  have a2 := lowN_abs n2 d h
  have hl := lcm_bd _ _ b1 b2
  unfold three
  have m1 := mulb _ _ 2000000 10000 (show (lowN n1 d).natAbs ≤ 2000000 by omega) hl.2.2.1
  have m2 := mulb _ _ 2000000 10000 (show (lowN n2 d).natAbs ≤ 2000000 by omega) hl.2.2.2.1
  exact ⟨by omega, by omega, by show 1 ≤ lcm _ _; omega, by show lcm _ _ ≤ _; omega⟩
theorem pos_mul_iff (x c : Int) (hc : 1 ≤ c) : 0 < x * c ↔ 0 < x := by
  constructor
  · intro h
    rcases Int.lt_or_le 0 x with h1 | h1
    · exact h1
    · have := Int.mul_le_mul_of_nonneg_right h1 (show 0 ≤ c by omega)
      omega
  · intro h; exact Int.mul_pos h (by omega)
theorem lowN_pos_iff (n d : Int) (h : 0 < d) : 0 < lowN n d ↔ 0 < n := by
  have e := low_mul_N n d (by omega)
  rw [if_neg (by omega)] at e
  rw [← pos_mul_iff (lowN n d) (g n d) (g_pos n d (by omega)), e]
theorem part_ge (y v : Int) (hy : 1 ≤ y) (hv : 1 ≤ v) : 1 ≤ lcm y v / y ∧ 1 ≤ lcm y v / v := by
  constructor
  · rw [lcm_eq, Int.mul_ediv_cancel_left _ (by omega)]; exact (part_pos y v hv).1
  · rw [show lcm y v = y / g y v * v from rfl, Int.mul_ediv_cancel _ (by omega)]; exact (part_pos_l y v hy hv).1
/-- Both ages are greater than 0 just where the numerator is. -/
theorem three_pos (p q s d : Int) (hp : 1 ≤ p) (hq : 1 ≤ q) (h : 0 < d) : (0 < (three (p * s) (q * s) d).1 ↔ 0 < s) ∧ (0 < (three (p * s) (q * s) d).2.1 ↔ 0 < s) := by
  have hy := lowD_pos (p * s) d (by omega)
  have hv := lowD_pos (q * s) d (by omega)
  have hg := part_ge _ _ hy hv
  unfold three
  refine ⟨?_, ?_⟩
  · rw [pos_mul_iff _ _ hg.1, lowN_pos_iff _ _ h, Int.mul_comm, pos_mul_iff _ _ hp]
  · rw [pos_mul_iff _ _ hg.2, lowN_pos_iff _ _ h, Int.mul_comm, pos_mul_iff _ _ hq]
/-- What both sides come to: the ratios now p : q and then u : v, the years y. -/
def twoV (p q u v y : Int) : Int × Int × Int × Bool :=
  if v * p - u * q ≠ 0 ∧ 0 < min (three (p * ((u - v) * y)) (q * ((u - v) * y)) (v * p - u * q)).1 (three (p * ((u - v) * y)) (q * ((u - v) * y)) (v * p - u * q)).2.1 ∧
     0 < min (three (p * ((u - v) * y)) (q * ((u - v) * y)) (v * p - u * q)).1 (three (p * ((u - v) * y)) (q * ((u - v) * y)) (v * p - u * q)).2.1 + (three (p * ((u - v) * y)) (q * ((u - v) * y)) (v * p - u * q)).2.2 * y
  then ((three (p * ((u - v) * y)) (q * ((u - v) * y)) (v * p - u * q)).1, (three (p * ((u - v) * y)) (q * ((u - v) * y)) (v * p - u * q)).2.1, (three (p * ((u - v) * y)) (q * ((u - v) * y)) (v * p - u * q)).2.2, true) else (0, 0, 0, false)
theorem impl_two (p q u v y : Int) (h1 : good p q = true) (h2 : good u v = true) (hy : y.natAbs ≤ 120) : Ev (fun k => impl_agesFromTwo.f k p q u v y) (twoV p q u v y) := by
  have g1 := (good_iff p q).1 h1
  have g2 := (good_iff u v).1 h2
  have m1 := mulb v p 100 100 (by omega) (by omega)
  have m2 := mulb u q 100 100 (by omega) (by omega)
  have m3 := mulb (u - v) y 99 120 (by omega) hy
  have m4 := mulb p ((u - v) * y) 100 _ (by omega) m3
  have m5 := mulb q ((u - v) * y) 100 _ (by omega) m3
  have vp : 0 < v * p := Int.mul_pos (by omega) (by omega)
  have uq : 0 < u * q := Int.mul_pos (by omega) (by omega)
  unfold impl_agesFromTwo.f twoV
  rw [w64 (v * p) (by omega), w64 (u * q) (by omega), w64 (v * p - u * q) (by omega), w64 (u - v) (by omega), w64 ((u - v) * y) (by omega), w64 (p * _) (by omega), w64 (q * _) (by omega)]
  by_cases h0 : v * p - u * q = 0
  · refine ifp h0 ?_
    rw [if_neg (fun h => h.1 h0)]; exact now
  · have b := three_bd (p * ((u - v) * y)) (q * ((u - v) * y)) (v * p - u * q) (by omega) (by omega) (by omega) h0
    refine ifn h0 (Ev.bind (twoAges _ _ _ (by omega) (by omega) (by omega) h0) ?_)
    generalize three (p * ((u - v) * y)) (q * ((u - v) * y)) (v * p - u * q) = T at b ⊢
    obtain ⟨a, b', c⟩ := T
    dsimp only at b ⊢
    have m6 := mulb c y 100000000 120 (by omega) hy
    rw [mn_, w64 (c * y) (by omega), w64 (min a b' + c * y) (by omega)]
    by_cases h3 : min a b' ≤ 0
    · refine ifp h3 ?_
      rw [if_neg (by intro h; omega)]; exact now
    · refine ifn h3 ?_
      by_cases h4 : min a b' + c * y ≤ 0
      · refine ifp h4 ?_
        rw [if_neg (by intro h; omega)]; exact now
      · refine ifn h4 ?_
        rw [if_pos ⟨h0, by omega, by omega⟩]; exact now
theorem spec_two_j2 (p q s d y : Int) (x : Bool) (hp : 1 ≤ p ∧ p ≤ 100) (hq : 1 ≤ q ∧ q ≤ 100) (hs : s.natAbs ≤ 11880) (hd : d.natAbs ≤ 10000) (hy : y.natAbs ≤ 120) (hd0 : 0 ≤ d) (hx : x = decide (d = 0 ∨ s ≤ 0)) :
    Ev (fun k => spec_AgesFromTwo.j2 k y d s x p q) (if d ≠ 0 ∧ 0 < min (three (p * s) (q * s) d).1 (three (p * s) (q * s) d).2.1 ∧ 0 < min (three (p * s) (q * s) d).1 (three (p * s) (q * s) d).2.1 + (three (p * s) (q * s) d).2.2 * y
      then ((three (p * s) (q * s) d).1, (three (p * s) (q * s) d).2.1, (three (p * s) (q * s) d).2.2, true) else (0, 0, 0, false)) := by
  have m4 := mulb p s 100 _ (by omega) hs
  have m5 := mulb q s 100 _ (by omega) hs
  refine Ev.step (f := fun k => _) (fun k => by rw [spec_AgesFromTwo.j2]) ?_
  subst hx
  by_cases h0 : d = 0 ∨ s ≤ 0
  · refine ifp (by simpa using h0) (evEq now ?_)
    by_cases h1 : d = 0
    · rw [if_neg (fun h => h.1 h1)]
    · have hs0 : s ≤ 0 := by omega
      have := (three_pos p q s d hp.1 hq.1 (by omega)).1
      rw [if_neg (by intro h; have := this.1 (by omega); omega)]
  · have h1 : d ≠ 0 := fun h => h0 (.inl h)
    have h2 : 0 < s := by omega
    have hpos := three_pos p q s d hp.1 hq.1 (by omega)
    have b := three_bd (p * s) (q * s) d (by omega) (by omega) hd h1
    refine ifn (by simpa using h0) ?_
    rw [w64 (p * s) (by omega), w64 (q * s) (by omega)]
    refine Ev.bind (raThree _ _ _ (by omega) (by omega) hd h1) ?_
    have p1 := hpos.1.2 h2
    have p2 := hpos.2.2 h2
    clear hpos
    generalize three (p * s) (q * s) d = T at b p1 p2 ⊢
    obtain ⟨a, b', c⟩ := T
    dsimp only at b p1 p2 ⊢
    have m6 := mulb y c 120 100000000 hy (by omega)
    rw [w64 (y * c) (by omega), w64 (a + y * c) (by omega), w64 (b' + y * c) (by omega), Int.mul_comm c y]
    by_cases h3 : a + y * c ≤ 0
    · refine ifp h3 ?_
      rw [if_neg (by intro h; omega)]; exact now
    · refine ifn h3 ?_
      by_cases h4 : b' + y * c ≤ 0
      · refine ifp h4 ?_
        rw [if_neg (by intro h; omega)]; exact now
      · refine ifn h4 ?_
        rw [if_pos ⟨h1, by omega, by omega⟩]; exact now
theorem spec_two_j1 (p q s d y : Int) (hp : 1 ≤ p ∧ p ≤ 100) (hq : 1 ≤ q ∧ q ≤ 100) (hs : s.natAbs ≤ 11880) (hd : d.natAbs ≤ 10000) (hy : y.natAbs ≤ 120) (hd0 : 0 ≤ d) :
    Ev (fun k => spec_AgesFromTwo.j1 k y d s p q) (if d ≠ 0 ∧ 0 < min (three (p * s) (q * s) d).1 (three (p * s) (q * s) d).2.1 ∧ 0 < min (three (p * s) (q * s) d).1 (three (p * s) (q * s) d).2.1 + (three (p * s) (q * s) d).2.2 * y
      then ((three (p * s) (q * s) d).1, (three (p * s) (q * s) d).2.1, (three (p * s) (q * s) d).2.2, true) else (0, 0, 0, false)) := by
  refine Ev.step (f := fun k => _) (fun k => by rw [spec_AgesFromTwo.j1]) ?_
  by_cases h : d = 0
  · exact ifp h (spec_two_j2 p q s d y true hp hq hs hd hy hd0 (by simp [h]))
  · exact ifn h (spec_two_j2 p q s d y _ hp hq hs hd hy hd0 (by simp [h]))
theorem spec_two_j0 (p q u v y : Int) (h1 : good p q = true) (h2 : good u v = true) (hy : y.natAbs ≤ 120) : Ev (fun k => spec_AgesFromTwo.j0 k y false p q u v) (twoV p q u v y) := by
  have g1 := (good_iff p q).1 h1
  have g2 := (good_iff u v).1 h2
  have m1 := mulb v p 100 100 (by omega) (by omega)
  have m2 := mulb u q 100 100 (by omega) (by omega)
  have m3 := mulb y (u - v) 120 99 hy (by omega)
  have vp : 0 < v * p := Int.mul_pos (by omega) (by omega)
  have uq : 0 < u * q := Int.mul_pos (by omega) (by omega)
  refine Ev.step (f := fun k => _) (fun k => by rw [spec_AgesFromTwo.j0]) (ifn (by simp) ?_)
  rw [w64 (v * p) (by omega), w64 (u * q) (by omega), w64 (v * p - u * q) (by omega), w64 (u - v) (by omega), w64 (y * (u - v)) (by omega), w64 (-(v * p - u * q)) (by omega), w64 (-(y * (u - v))) (by omega)]
  by_cases h : v * p - u * q < 0
  · refine ifp h (evEq (spec_two_j1 p q _ _ y (by omega) (by omega) (by omega) (by omega) hy (by omega)) ?_)
    rw [Int.mul_comm y (u - v), Int.mul_neg, Int.mul_neg, three_neg _ _ _ (by omega)]
    unfold twoV
    have e : -(v * p - u * q) ≠ 0 ↔ v * p - u * q ≠ 0 := by omega
    simp only [e]
  · refine ifn h (evEq (spec_two_j1 p q _ _ y (by omega) (by omega) (by omega) (by omega) hy (by omega)) ?_)
    rw [Int.mul_comm y (u - v)]
    rfl
theorem spec_two_no (p q u v y : Int) : Ev (fun k => spec_AgesFromTwo.j0 k y true p q u v) (0, 0, 0, false) := Ev.step (f := fun k => _) (fun k => by rw [spec_AgesFromTwo.j0]) (ifp rfl now)
def okTwo (p q u v y : Int) : Prop := good p q = true ∧ good u v = true ∧ (-120 ≤ y ∧ y ≤ 120) ∧ y ≠ 0
instance (p q u v y : Int) : Decidable (okTwo p q u v y) := by unfold okTwo; exact inferInstance
theorem spec_Two (p q u v y : Int) : Ev (fun k => spec_AgesFromTwo.f k p q u v y) (if okTwo p q u v y then twoV p q u v y else (0, 0, 0, false)) := by
  unfold spec_AgesFromTwo.f
  have no : ¬ okTwo p q u v y → Ev (fun k => spec_AgesFromTwo.j0 k y true p q u v) (if okTwo p q u v y then twoV p q u v y else (0, 0, 0, false)) := fun h => by
    rw [if_neg h]; exact spec_two_no p q u v y
  refine call (raGood p q) ?_
  by_cases h1 : good p q = true
  · refine ifp h1 (call (raGood u v) ?_)
    by_cases h2 : good u v = true
    · refine ifp h2 (call (l1In y _ _) ?_)
      by_cases h3 : -120 ≤ y ∧ y ≤ 120
      · refine ifp (by simpa using h3) ?_
        by_cases h4 : y = 0
        · rw [show (y == 0) = true by simp [h4]]; exact no fun h => h.2.2.2 h4
        · rw [show (y == 0) = false by simp [h4], if_pos ⟨h1, h2, h3, h4⟩]
          exact spec_two_j0 p q u v y h1 h2 (by omega)
      · exact ifn (by simpa using h3) (no fun h => h3 h.2.2.1)
    · exact ifn h2 (no fun h => h2 h.2.1)
  · exact ifn h1 (no fun h => h1 h.1)
end Go.Proofs.Ytnbolemfldmohaa.Pr
namespace Go.Proofs.Ytnbolemfldmohaa.Pr
open Go.Proofs.Ytnbolemfldmohaa.Mth
theorem dvd_g (e a b : Int) (h1 : e ∣ a) (h2 : e ∣ b) : e ∣ g a b := Int.dvd_coe_gcd h1 h2
theorem g_mulr (a b c : Int) (hc : 0 ≤ c) : g (a * c) (b * c) = g a b * c := by
  unfold g
  rw [Int.gcd_mul_right, Int.natCast_mul, Int.natAbs_of_nonneg hc]
theorem g_nn (a b : Int) : 0 ≤ g a b := by unfold g; omega
theorem one_of_dvd (e : Int) (h0 : 0 ≤ e) (h : e ∣ 1) : e = 1 := by
  have := Int.le_of_dvd (by decide) h
  have h2 : e ≠ 0 := fun h0 => by subst h0; obtain ⟨c, hc⟩ := h; omega
  omega
theorem three_facts (n1 n2 D : Int) (h : D ≠ 0) : 1 ≤ (three n1 n2 D).2.2 ∧ (three n1 n2 D).1 * D = n1 * (three n1 n2 D).2.2 ∧ (three n1 n2 D).2.1 * D = n2 * (three n1 n2 D).2.2 ∧ g (g (three n1 n2 D).1 (three n1 n2 D).2.1) (three n1 n2 D).2.2 = 1 := by
  unfold three
  have c1 := low_cross n1 D h
  have c2 := low_cross n2 D h
  have hy := lowD_pos n1 D h
  have hv := lowD_pos n2 D h
  have k1 := low_coprime n1 D h
  have k2 := low_coprime n2 D h
  generalize lowN n1 D = x at *
  generalize lowN n2 D = u at *
  generalize lowD n1 D = y at *
  generalize lowD n2 D = v at *
  dsimp only
  have e1 := lcm_eq y v
  have e2 : lcm y v = y / g y v * v := rfl
  have p1 := part_pos y v hv
  have p2 := part_pos_l y v hy hv
  have hco : Int.gcd (y / g y v) (v / g y v) = 1 := Int.gcd_ediv_gcd_ediv_gcd (i := y) (j := v) (by have := g_pos y v (by omega); unfold g at this; omega)
  have d1 : lcm y v / y = v / g y v := by rw [e1, Int.mul_ediv_cancel_left _ (by omega)]
  have d2 : lcm y v / v = y / g y v := by rw [e2, Int.mul_ediv_cancel _ (by omega)]
  rw [d1, d2]
  generalize v / g y v = A at *
  generalize y / g y v = B at *
  generalize lcm y v = L at *
  clear d1 d2
  refine ⟨?_, ?_, ?_, ?_⟩
  · rw [e1]
    have := Int.mul_le_mul_of_nonneg_left p1.1 (show 0 ≤ y by omega)
    omega
  · rw [e1, Int.mul_right_comm, c1, Int.mul_assoc]
  · rw [e2, Int.mul_right_comm, c2, Int.mul_assoc, Int.mul_comm v B]
  · have q1 := g_dvd_l (g (x * A) (u * B)) L
    have q2 := g_dvd_r (g (x * A) (u * B)) L
    have q3 := Int.dvd_trans q1 (g_dvd_l (x * A) (u * B))
    have q4 := Int.dvd_trans q1 (g_dvd_r (x * A) (u * B))
    have q0 := g_nn (g (x * A) (u * B)) L
    generalize g (g (x * A) (u * B)) L = e at *
    have r1 : e ∣ A := by
      have := dvd_g e (x * A) (y * A) q3 (by rw [← e1]; exact q2)
      rwa [g_mulr _ _ _ (by omega), k1, Int.one_mul] at this
    have r2 : e ∣ B := by
      have := dvd_g e (u * B) (v * B) q4 (by rw [Int.mul_comm v B, ← e2]; exact q2)
      rwa [g_mulr _ _ _ (by omega), k2, Int.one_mul] at this
    have r3 := dvd_g e B A r2 r1
    unfold g at r3
    rw [hco] at r3
    exact one_of_dvd e q0 r3
theorem cancel (a b D : Int) (hD : D ≠ 0) (h : a * D = b * D) : a = b := Int.eq_of_mul_eq_mul_right hD h
/-- A sum that is told. -/
theorem sum_facts (s p q : Int) (hp : 1 ≤ p) (hq : 1 ≤ q) (hs : 1 ≤ s) : let t := three (s * p) (s * q) (p + q); t.1 + t.2.1 = s * t.2.2 ∧ t.1 * q = t.2.1 * p ∧ 1 ≤ t.1 ∧ 1 ≤ t.2.1 := by
  intro t
  have hD : p + q ≠ 0 := by omega
  obtain ⟨h1, h2, h3, _⟩ := three_facts (s * p) (s * q) (p + q) hD
  change 1 ≤ t.2.2 at h1
  change t.1 * (p + q) = s * p * t.2.2 at h2
  change t.2.1 * (p + q) = s * q * t.2.2 at h3
  have b := three_pos p q s (p + q) hp hq (by omega)
  rw [Int.mul_comm p s, Int.mul_comm q s] at b
  refine ⟨cancel _ _ _ hD ?_, cancel _ _ _ hD ?_, b.1.2 (by omega), b.2.2 (by omega)⟩
  · grind
  · grind
/-- A gap that is told. -/
theorem gap_facts (s p q : Int) (hp : 1 ≤ p) (hq : 1 ≤ q) (hs : 0 < s * (p - q)) : let t := three (s * p) (s * q) (p - q); t.1 - t.2.1 = s * t.2.2 ∧ t.1 * q = t.2.1 * p ∧ 1 ≤ t.1 ∧ 1 ≤ t.2.1 := by
  intro t
  have hD : p - q ≠ 0 := by intro e; rw [e] at hs; simp at hs
  obtain ⟨h1, h2, h3, _⟩ := three_facts (s * p) (s * q) (p - q) hD
  change 1 ≤ t.2.2 at h1
  change t.1 * (p - q) = s * p * t.2.2 at h2
  change t.2.1 * (p - q) = s * q * t.2.2 at h3
  have pos : ∀ X r : Int, 1 ≤ r → X * (p - q) = s * r * t.2.2 → 1 ≤ X := by
    intro X r hr e
    have e2 : X * ((p - q) * (p - q)) = (s * (p - q)) * (r * t.2.2) := by grind
    have k1 : 0 < r * t.2.2 := Int.mul_pos (by omega) (by omega)
    have k2 : 0 < (s * (p - q)) * (r * t.2.2) := Int.mul_pos hs k1
    have k3 : 0 < (p - q) * (p - q) := by
      rcases Int.lt_or_gt_of_ne hD with h | h
      · exact Int.mul_pos_of_neg_of_neg h h
      · exact Int.mul_pos h h
    rcases Int.lt_or_le X 1 with h | h
    · have := Int.mul_le_mul_of_nonneg_right (show X ≤ 0 by omega) (show 0 ≤ (p - q) * (p - q) by omega)
      omega
    · exact h
  refine ⟨cancel _ _ _ hD ?_, cancel _ _ _ hD ?_, pos _ p hp h2, pos _ q hq h3⟩
  · grind
  · grind
/-- Two ratios that are told. -/
theorem two_facts (p q u v y : Int) (hD : v * p - u * q ≠ 0) : let t := three (p * ((u - v) * y)) (q * ((u - v) * y)) (v * p - u * q); t.1 * q = t.2.1 * p ∧ (t.1 + y * t.2.2) * v = (t.2.1 + y * t.2.2) * u := by
  intro t
  obtain ⟨h1, h2, h3, _⟩ := three_facts (p * ((u - v) * y)) (q * ((u - v) * y)) (v * p - u * q) hD
  change t.1 * (v * p - u * q) = p * ((u - v) * y) * t.2.2 at h2
  change t.2.1 * (v * p - u * q) = q * ((u - v) * y) * t.2.2 at h3
  refine ⟨cancel _ _ _ hD ?_, cancel _ _ _ hD ?_⟩
  · grind
  · grind
theorem g_shift (a b c x : Int) : g (g (a + x * c) (b + x * c)) c = g (g a b) c := by
  have key : ∀ a b x : Int, g (g a b) c ∣ g (g (a + x * c) (b + x * c)) c := by
    intro a b x
    have q1 := g_dvd_l (g a b) c
    have q2 := g_dvd_r (g a b) c
    have q3 := Int.dvd_trans q1 (g_dvd_l a b)
    have q4 := Int.dvd_trans q1 (g_dvd_r a b)
    have q5 : g (g a b) c ∣ x * c := Int.dvd_trans q2 (Int.dvd_mul_left x c)
    exact dvd_g _ _ _ (dvd_g _ _ _ (Int.dvd_add q3 q5) (Int.dvd_add q4 q5)) q2
  have k1 := key a b x
  have k2 := key (a + x * c) (b + x * c) (-x)
  have e1 : a + x * c + -x * c = a := by grind
  have e2 : b + x * c + -x * c = b := by grind
  rw [e1, e2] at k2
  exact Int.dvd_antisymm (g_nn _ _) (g_nn _ _) k2 k1
end Go.Proofs.Ytnbolemfldmohaa.Pr
namespace Go.Proofs.Ytnbolemfldmohaa.Pr
open Go.RowKit Go.Proofs.Ytnbolemfldmohaa.P Go.Proofs.YtnbolemfldmohaaW.PrintWords Go.Proofs.YtnbolemfldmohaaW.PrintMore Go.Proofs.Ytnbolemfldmohaa.E Go.Proofs.Ytnbolemfldmohaa.Mth
theorem gT1 (m : Nat) : ∀ a c : Int, 0 ≤ a → 0 ≤ c → c.natAbs ≤ m → Ev (fun k => laws_gThree.l1 k a c) (g a c) := by
  induction m with
  | zero =>
    intro a c h0 h1 h2
    obtain rfl : c = 0 := by omega
    exact Ev.step (f := fun k => _) (fun k => by rw [laws_gThree.l1]) (ifn (by omega) (evEq now (by rw [g_zero]; omega)))
  | succ m ih =>
    intro a c h0 h1 h2
    by_cases h : c = 0
    · subst h
      exact Ev.step (f := fun k => _) (fun k => by rw [laws_gThree.l1]) (ifn (by omega) (evEq now (by rw [g_zero]; omega)))
    · have e : a.tmod c = a % c := Int.tmod_eq_emod_of_nonneg h0
      have b1 := Int.emod_nonneg a h
      have b2 := Int.emod_lt_of_pos a (show 0 < c by omega)
      have hh := ih c (a.tmod c) h1 (by omega) (by omega)
      rw [g_step a c h] at hh
      exact Ev.step (f := fun k => _) (fun k => by rw [laws_gThree.l1]) (ifp (by omega) (ifn h hh))
theorem gT0 (c : Int) (hc : 0 ≤ c) (m : Nat) : ∀ a b : Int, 0 ≤ a → 0 ≤ b → b.natAbs ≤ m → Ev (fun k => laws_gThree.l0 k a b c) (g (g a b) c) := by
  have stop : ∀ a : Int, 0 ≤ a → Ev (fun k => laws_gThree.l0 k a 0 c) (g (g a 0) c) := fun a h0 => by
    have e : g a 0 = a := by rw [g_zero]; omega
    rw [e]
    exact Ev.step (f := fun k => _) (fun k => by rw [laws_gThree.l0]) (ifn (by omega) (gT1 _ a c h0 hc (Nat.le_refl _)))
  induction m with
  | zero =>
    intro a b h0 h1 h2
    obtain rfl : b = 0 := by omega
    exact stop a h0
  | succ m ih =>
    intro a b h0 h1 h2
    by_cases h : b = 0
    · subst h
      exact stop a h0
    · have e : a.tmod b = a % b := Int.tmod_eq_emod_of_nonneg h0
      have b1 := Int.emod_nonneg a h
      have b2 := Int.emod_lt_of_pos a (show 0 < b by omega)
      have hh := ih b (a.tmod b) h1 (by omega) (by omega)
      rw [g_step a b h] at hh
      exact Ev.step (f := fun k => _) (fun k => by rw [laws_gThree.l0]) (ifp (by omega) (ifn h hh))
theorem gThree (a b c : Int) (ha : 0 ≤ a) (hb : 0 ≤ b) (hc : 0 ≤ c) : Ev (fun k => laws_gThree.f k a b c) (g (g a b) c) := gT0 c hc _ a b ha hb (Nat.le_refl _)
theorem gL (m : Nat) : ∀ a c : Int, 0 ≤ a → 0 ≤ c → c.natAbs ≤ m → Ev (fun k => laws_gLow.l0 k a c) (g a c == 1) := by
  induction m with
  | zero =>
    intro a c h0 h1 h2
    obtain rfl : c = 0 := by omega
    exact Ev.step (f := fun k => _) (fun k => by rw [laws_gLow.l0]) (ifn (by omega) (evEq now (by rw [g_zero, show (a.natAbs : Int) = a by omega])))
  | succ m ih =>
    intro a c h0 h1 h2
    by_cases h : c = 0
    · subst h
      exact Ev.step (f := fun k => _) (fun k => by rw [laws_gLow.l0]) (ifn (by omega) (evEq now (by rw [g_zero, show (a.natAbs : Int) = a by omega])))
    · have e : a.tmod c = a % c := Int.tmod_eq_emod_of_nonneg h0
      have b1 := Int.emod_nonneg a h
      have b2 := Int.emod_lt_of_pos a (show 0 < c by omega)
      have hh := ih c (a.tmod c) h1 (by omega) (by omega)
      rw [g_step a c h] at hh
      exact Ev.step (f := fun k => _) (fun k => by rw [laws_gLow.l0]) (ifp (by omega) (ifn h hh))
theorem gLow (n d : Int) (hd : 1 ≤ d) (hn : n.natAbs ≤ 1000000000) (h : g n d = 1) : Ev (fun k => laws_gLow.f k n d) true := by
  unfold laws_gLow.f
  refine ifn (by omega) ?_
  by_cases h0 : n < 0
  · have hh := gL _ (-n) d (by omega) (by omega) (Nat.le_refl _)
    rw [g_neg_l, h] at hh
    refine ifp h0 ?_
    rw [w64 _ (by omega)]
    exact Ev.step (f := fun k => _) (fun k => by rw [laws_gLow.j0]) hh
  · have hh := gL _ n d (by omega) (by omega) (Nat.le_refl _)
    rw [h] at hh
    exact ifn h0 (Ev.step (f := fun k => _) (fun k => by rw [laws_gLow.j0]) hh)
theorem turn_f (p q : Int) : impl_TurnRatio.f p q = some (if good p q = true then (q, p, true) else (0, 0, false)) := by
  simp only [impl_TurnRatio.f, isRatio, Option.bind_some]
  cases good p q <;> simp
theorem good_comm (p q : Int) : good p q = good q p := by
  unfold good
  rw [decide_eq_decide]
  omega
theorem one_ne : ((1 : Int) != 1) = false := by decide
theorem j7_ok (p q : Int) : Ev (fun k => laws_FnRatiosFound.j7 k (good p q) false p q (if good p q = true then (q, p, true) else ((0 : Int), (0 : Int), false)).1 (if good p q = true then (q, p, true) else ((0 : Int), (0 : Int), false)).2.1) true := by
  refine Ev.step (f := fun k => _) (fun k => by rw [laws_FnRatiosFound.j7]) (ifn (by simp) ?_)
  cases h : good p q with
  | false => exact ifn (by simp) now
  | true =>
    have e := turn_f q p
    rw [← good_comm p q, h] at e
    refine ifp rfl (call (b := (p, q, true)) e (ifp rfl (ifp (by simp) (evEq now (by simp)))))
theorem j6_ok (x y i j l : Int) (nine t : Bool) (p q u v r1 r2 t1 t2 : Int) (hp : nine = true → (x.natAbs ≤ 1000 ∧ y.natAbs ≤ 1000) ∧ p.natAbs ≤ 100 ∧ q.natAbs ≤ 100 ∧ u.natAbs ≤ 100 ∧ v.natAbs ≤ 100)
    (hb : i.natAbs ≤ 100000000000 ∧ j.natAbs ≤ 100000000000 ∧ l.natAbs ≤ 100000000)
    (h : nine = true → 1 ≤ l ∧ (i - x * l) * q = (j - x * l) * p ∧ (i + y * l) * v = (j + y * l) * u ∧ 1 ≤ i - x * l ∧ 1 ≤ j - x * l ∧ 0 ≤ i ∧ 0 ≤ j ∧ g (g i j) l = 1)
    (c : Ev (fun k => laws_FnRatiosFound.j7 k t false r1 r2 t1 t2) true) : Ev (fun k => laws_FnRatiosFound.j6 k x y i j l nine t false p q u v r1 r2 t1 t2) true := by
  refine Ev.step (f := fun k => _) (fun k => by rw [laws_FnRatiosFound.j6]) (ifn (by simp) ?_)
  cases nine with
  | false => exact ifn (by simp) c
  | true =>
    obtain ⟨h1, h2, h3, h4, h5, h6, h7, h8⟩ := h rfl
    obtain ⟨⟨hx, hy⟩, b1, b2, b3, b4⟩ := hp rfl
    have m1 := mulb x l 1000 100000000 hx hb.2.2
    have m2 := mulb y l 1000 100000000 hy hb.2.2
    have n1 : (x * l).natAbs ≤ 100000000000 := m1
    have n2 : (y * l).natAbs ≤ 100000000000 := m2
    clear m1 m2
    obtain ⟨b5, b6, b7⟩ := hb
    have n3 : (i - x * l).natAbs ≤ 200000000000 := by clear h2 h3 h8; omega
    have n4 : (j - x * l).natAbs ≤ 200000000000 := by clear h2 h3 h8; omega
    have n5 : (i + y * l).natAbs ≤ 200000000000 := by clear h2 h3 h8; omega
    have n6 : (j + y * l).natAbs ≤ 200000000000 := by clear h2 h3 h8; omega
    have m3 : ((i - x * l) * q).natAbs ≤ 20000000000000 := mulb (i - x * l) q 200000000000 100 n3 b2
    have m4 : ((j - x * l) * p).natAbs ≤ 20000000000000 := mulb (j - x * l) p 200000000000 100 n4 b1
    have m5 : ((i + y * l) * v).natAbs ≤ 20000000000000 := mulb (i + y * l) v 200000000000 100 n5 b4
    have m6 : ((j + y * l) * u).natAbs ≤ 20000000000000 := mulb (j + y * l) u 200000000000 100 n6 b3
    have w1 := w64 (x * l) (by clear h2 h3 h8; omega)
    have w2 := w64 (y * l) (by clear h2 h3 h8; omega)
    have w3 := w64 (i - x * l) (by clear h2 h3 h8; omega)
    have w4 := w64 (j - x * l) (by clear h2 h3 h8; omega)
    have w5 := w64 (i + y * l) (by clear h2 h3 h8; omega)
    have w6 := w64 (j + y * l) (by clear h2 h3 h8; omega)
    have w7 := w64 ((i - x * l) * q) (by clear h2 h3 h8; omega)
    have w8 := w64 ((j - x * l) * p) (by clear h2 h3 h8; omega)
    have w9 := w64 ((i + y * l) * v) (by clear h2 h3 h8; omega)
    have w10 := w64 ((j + y * l) * u) (by clear h2 h3 h8; omega)
    refine ifp rfl (ifn (by clear h2 h3 h8; omega) ?_)
    rw [w1, w2, w3, w4, w5, w6, w7, w8, w9, w10]
    have e := gThree i j l h6 h7 (by clear h2 h3 h8; omega)
    rw [h8] at e
    refine ifp h2 (ifp h3 (ifn (Int.not_lt.2 h4) (ifn (Int.not_lt.2 h5) (Ev.bind e ?_))))
    rw [one_ne]
    exact c
theorem j5_ok (y f g_ h_ : Int) (seven : Bool) (x y2 i j l : Int) (nine t : Bool) (p q u v p2 q2 u2 v2 r1 r2 t1 t2 : Int) (hp : seven = true → y.natAbs ≤ 1000 ∧ p.natAbs ≤ 100 ∧ q.natAbs ≤ 100 ∧ u.natAbs ≤ 100 ∧ v.natAbs ≤ 100)
    (hb : f.natAbs ≤ 100000000000 ∧ g_.natAbs ≤ 100000000000 ∧ h_.natAbs ≤ 100000000)
    (h : seven = true → 1 ≤ h_ ∧ f * q = g_ * p ∧ (f + y * h_) * v = (g_ + y * h_) * u ∧ 1 ≤ f ∧ 1 ≤ g_ ∧ 1 ≤ f + y * h_ ∧ 1 ≤ g_ + y * h_ ∧ g (g f g_) h_ = 1)
    (c : Ev (fun k => laws_FnRatiosFound.j6 k x y2 i j l nine t false p2 q2 u2 v2 r1 r2 t1 t2) true) : Ev (fun k => laws_FnRatiosFound.j5 k y f g_ h_ seven x y2 i j l nine t false p q u v p2 q2 u2 v2 r1 r2 t1 t2) true := by
  refine Ev.step (f := fun k => _) (fun k => by rw [laws_FnRatiosFound.j5]) (ifn (by simp) ?_)
  cases seven with
  | false => exact ifn (by simp) c
  | true =>
    obtain ⟨h1, h2, h3, h4, h5, h6, h7, h8⟩ := h rfl
    obtain ⟨hy, b1, b2, b3, b4⟩ := hp rfl
    obtain ⟨b5, b6, b7⟩ := hb
    have n1 : (y * h_).natAbs ≤ 100000000000 := mulb y h_ 1000 100000000 hy b7
    have m3 : (f * q).natAbs ≤ 10000000000000 := mulb f q 100000000000 100 b5 b2
    have m4 : (g_ * p).natAbs ≤ 10000000000000 := mulb g_ p 100000000000 100 b6 b1
    have n5 : (f + y * h_).natAbs ≤ 200000000000 := by clear h2 h3 h8; omega
    have n6 : (g_ + y * h_).natAbs ≤ 200000000000 := by clear h2 h3 h8; omega
    have m5 : ((f + y * h_) * v).natAbs ≤ 20000000000000 := mulb (f + y * h_) v 200000000000 100 n5 b4
    have m6 : ((g_ + y * h_) * u).natAbs ≤ 20000000000000 := mulb (g_ + y * h_) u 200000000000 100 n6 b3
    have w1 := w64 (y * h_) (by clear h2 h3 h8; omega)
    have w2 := w64 (f + y * h_) (by clear h2 h3 h8; omega)
    have w3 := w64 (g_ + y * h_) (by clear h2 h3 h8; omega)
    have w4 := w64 (f * q) (by clear h2 h3 h8; omega)
    have w5 := w64 (g_ * p) (by clear h2 h3 h8; omega)
    have w6 := w64 ((f + y * h_) * v) (by clear h2 h3 h8; omega)
    have w7 := w64 ((g_ + y * h_) * u) (by clear h2 h3 h8; omega)
    refine ifp rfl (ifn (Int.not_lt.2 h1) ?_)
    rw [w1, w2, w3, w4, w5, w6, w7]
    have e := gThree f g_ h_ (Int.le_trans (by decide) h4) (Int.le_trans (by decide) h5) (Int.le_trans (by decide) h1)
    rw [h8] at e
    refine ifp h2 (ifp h3 (ifn (Int.not_lt.2 h4) (ifn (Int.not_lt.2 h5) (ifn (Int.not_lt.2 h6) (ifn (Int.not_lt.2 h7) (Ev.bind e ?_))))))
    rw [one_ne]
    exact c
theorem j3_ok (l1 : List Int) (gap u v w : Int) (five : Bool) (p q : Int) (hgap : five = true → gap.natAbs ≤ 1000 ∧ p.natAbs ≤ 100 ∧ q.natAbs ≤ 100) (hb : u.natAbs ≤ 100000000000 ∧ v.natAbs ≤ 100000000000 ∧ w.natAbs ≤ 100000000)
    (h : five = true → 1 ≤ w ∧ u - v = gap * w ∧ u * q = v * p ∧ 1 ≤ u ∧ 1 ≤ v ∧ g (g u v) w = 1)
    (c : Ev (fun k => laws_FnRatiosFound.j4 k l1 false) true) : Ev (fun k => laws_FnRatiosFound.j3 k l1 gap u v w five false p q) true := by
  refine Ev.step (f := fun k => _) (fun k => by rw [laws_FnRatiosFound.j3]) (ifn (by simp) ?_)
  cases five with
  | false => exact ifn (by simp) c
  | true =>
    obtain ⟨h1, h2, h3, h4, h5, h8⟩ := h rfl
    obtain ⟨b1, b2, b3⟩ := hgap rfl
    have m1 := mulb gap w 1000 100000000 b1 hb.2.2
    have m3 := mulb u q 100000000000 100 (by omega) b3
    have m4 := mulb v p 100000000000 100 (by omega) b2
    refine ifp rfl (ifn (by omega) ?_)
    rw [w64 (u - v) (by omega), w64 (gap * w) (by omega), w64 (u * q) (by omega), w64 (v * p) (by omega)]
    have e := gThree u v w (by omega) (by omega) (by omega)
    rw [h8] at e
    refine ifp h2 (ifp h3 (ifn (by omega) (ifn (by omega) (Ev.bind e ?_))))
    rw [one_ne]
    exact c
theorem j2_ok (l1 : List Int) (sum x y by_ : Int) (three_ : Bool) (gap u v w : Int) (five : Bool) (p q p2 q2 : Int) (hs : three_ = true → sum.natAbs ≤ 1000 ∧ p.natAbs ≤ 100 ∧ q.natAbs ≤ 100) (hb : x.natAbs ≤ 100000000000 ∧ y.natAbs ≤ 100000000000 ∧ by_.natAbs ≤ 100000000)
    (h : three_ = true → 1 ≤ by_ ∧ x + y = sum * by_ ∧ x * q = y * p ∧ 1 ≤ x ∧ 1 ≤ y ∧ g (g x y) by_ = 1)
    (c : Ev (fun k => laws_FnRatiosFound.j3 k l1 gap u v w five false p2 q2) true) : Ev (fun k => laws_FnRatiosFound.j2 k l1 sum x y by_ three_ gap u v w five p q p2 q2) true := by
  refine Ev.step (f := fun k => _) (fun k => by rw [laws_FnRatiosFound.j2]) ?_
  cases three_ with
  | false => exact ifn (by simp) c
  | true =>
    obtain ⟨h1, h2, h3, h4, h5, h8⟩ := h rfl
    obtain ⟨b1, b2, b3⟩ := hs rfl
    have m1 := mulb sum by_ 1000 100000000 b1 hb.2.2
    have m3 := mulb x q 100000000000 100 (by omega) b3
    have m4 := mulb y p 100000000000 100 (by omega) b2
    refine ifp rfl (ifn (by omega) ?_)
    rw [w64 (x + y) (by omega), w64 (sum * by_) (by omega), w64 (x * q) (by omega), w64 (y * p) (by omega)]
    have e := gThree x y by_ (by omega) (by omega) (by omega)
    rw [h8] at e
    refine ifp h2 (ifp h3 (ifn (by omega) (ifn (by omega) (Ev.bind e ?_))))
    rw [one_ne]
    exact c
theorem j1_ok (l1 : List Int) (n d near : Int) (one : Bool) (sum x y by_ : Int) (three_ : Bool) (gap u v w : Int) (five : Bool) (p q p2 q2 : Int) (h : d = 1 → one = true → n ≤ 120 → near = n)
    (c : Ev (fun k => laws_FnRatiosFound.j2 k l1 sum x y by_ three_ gap u v w five p q p2 q2) true) : Ev (fun k => laws_FnRatiosFound.j1 k l1 n d near one sum x y by_ three_ gap u v w five false p q p2 q2) true := by
  refine Ev.step (f := fun k => _) (fun k => by rw [laws_FnRatiosFound.j1]) (ifn (by simp) ?_)
  by_cases h1 : d = 1
  · by_cases h2 : one = true
    · by_cases h3 : n ≤ 120
      · exact ifp h1 (ifp h2 (ifp h3 (ifp (h h1 h2 h3) c)))
      · exact ifp h1 (ifp h2 (ifn h3 c))
    · exact ifp h1 (ifn h2 c)
  · exact ifn h1 c
theorem j0_ok (l1 : List Int) (a b n d : Int) (ok : Bool) (near : Int) (one : Bool) (sum x y by_ : Int) (three_ : Bool) (gap u v w : Int) (five : Bool) (P Q p q p2 q2 : Int)
    (hb : ok = true → (a.natAbs ≤ 120 ∧ b.natAbs ≤ 120 ∧ P.natAbs ≤ 100 ∧ Q.natAbs ≤ 100) ∧ n.natAbs ≤ 1000000 ∧ (1 ≤ d ∧ d ≤ 10000))
    (h : ok = true → g n d = 1 ∧ Q * (a * d + n) = P * (b * d + n) ∧ 0 < a * d + n ∧ 0 < b * d + n ∧ (d = 1 → one = true → n ≤ 120 → near = n))
    (c : Ev (fun k => laws_FnRatiosFound.j2 k l1 sum x y by_ three_ gap u v w five p q p2 q2) true) : Ev (fun k => laws_FnRatiosFound.j0 k l1 a b n d ok near one sum x y by_ three_ gap u v w five false P Q p q p2 q2) true := by
  refine Ev.step (f := fun k => _) (fun k => by rw [laws_FnRatiosFound.j0]) (ifn (by simp) ?_)
  cases ok with
  | false => exact ifn (by simp) c
  | true =>
    obtain ⟨h1, h2, h3, h4, h5⟩ := h rfl
    obtain ⟨⟨b1, b2, b3, b4⟩, b5, b6⟩ := hb rfl
    have m1 := mulb a d 120 10000 b1 (by omega)
    have m2 := mulb b d 120 10000 b2 (by omega)
    have m3 := mulb Q (a * d + n) 100 3000000 b4 (by omega)
    have m4 := mulb P (b * d + n) 100 3000000 b3 (by omega)
    refine ifp rfl (Ev.bind (gLow n d b6.1 (by omega) h1) (ifp rfl ?_))
    rw [w64 (a * d) (by omega), w64 (b * d) (by omega), w64 (a * d + n) (by omega), w64 (b * d + n) (by omega), w64 (Q * _) (by omega), w64 (P * _) (by omega)]
    refine ifp h2 (ifn (by omega) ?_)
    rw [decide_eq_false (show ¬ b * d + n ≤ 0 by omega)]
    exact j1_ok l1 n d near one sum x y by_ three_ gap u v w five p q p2 q2 h5 c
end Go.Proofs.Ytnbolemfldmohaa.Pr
namespace Go.Proofs.Ytnbolemfldmohaa.Pr
open Go.RowKit Go.Proofs.Ytnbolemfldmohaa.P Go.Proofs.YtnbolemfldmohaaW.PrintWords Go.Proofs.YtnbolemfldmohaaW.PrintMore Go.Proofs.Ytnbolemfldmohaa.E
def Bytes (l : List Int) : Prop := ∀ x ∈ l, 0 ≤ x ∧ x ≤ 255
theorem and255 (E : Int) (h0 : 0 ≤ E) (h1 : E ≤ 18446744073709551615) : 0 ≤ Go.bits .and .u64 E 255 ∧ Go.bits .and .u64 E 255 ≤ 255 := by
  have h := bits_and_u64_nat E.toNat 255 (by omega) (by omega)
  rw [Int.toNat_of_nonneg h0] at h
  rw [show ((255 : Nat) : Int) = 255 from rfl] at h
  rw [h]
  have : E.toNat &&& 255 ≤ 255 := Nat.and_le_right
  omega
theorem u64_bd (x : Int) : 0 ≤ IntKind.u64.wrap x ∧ IntKind.u64.wrap x ≤ 18446744073709551615 := by
  have : IntKind.u64.wrap x = x % 18446744073709551616 := by simp [IntKind.wrap, IntKind.bits, IntKind.signed]
  omega
theorem next_some (l : List Int) (hl : Bytes l) (a s : Int) (h0 : 0 ≤ a) (h1 : a ≤ 1000000) : ∃ v s', spec_l1Cur_next.f l a s = some (v, a + 1, s') ∧ 0 ≤ v ∧ v ≤ 255 := by
  unfold spec_l1Cur_next.f
  have ew : wrap64 (a + 1) = a + 1 := w64 _ (by omega)
  rw [ew]
  by_cases h : a < (l.length : Int)
  · rw [if_pos h, if_pos h0, if_pos (by omega)]
    obtain ⟨i, rfl⟩ := Int.eq_ofNat_of_zero_le h0
    have hm : rd l (i : Int) ∈ l := by
      have : rd l (i : Int) = l[i]'(by omega) := by simp [rd, List.getD_eq_getElem?_getD, List.getElem?_eq_getElem (show i < l.length by omega)]
      rw [this]
      exact List.getElem_mem _
    have hb := hl _ hm
    refine ⟨_, _, rfl, ?_⟩
    rw [w64 _ (by omega)]
    exact hb
  · rw [if_neg h, if_neg (by omega)]
    have hb := u64_bd ((IntKind.u64.wrap (IntKind.u64.wrap (s * 6364136223846793005))) + 1442695040888963407)
    generalize IntKind.u64.wrap ((IntKind.u64.wrap (IntKind.u64.wrap (s * 6364136223846793005))) + 1442695040888963407) = E at hb ⊢
    have ha := and255 (E / 1099511627776) (by omega) (by omega)
    refine ⟨_, _, rfl, ?_⟩
    rw [w64 _ (by omega)]
    exact ha
theorem pick_some (l : List Int) (hl : Bytes l) (a s n : Int) (h0 : 0 ≤ a) (h1 : a ≤ 1000000) (hn : 1 ≤ n) (hn2 : n ≤ 200) : ∃ v a' s', spec_l1Cur_pick.f l a s n = some (v, a', s') ∧ (0 ≤ v ∧ v < n) ∧ a ≤ a' ∧ a' ≤ a + 1 := by
  unfold spec_l1Cur_pick.f
  by_cases h : n ≤ 1
  · rw [if_pos h]
    exact ⟨0, a, s, rfl, by omega, by omega, by omega⟩
  · rw [if_neg h]
    obtain ⟨v, s', e, hv⟩ := next_some l hl a s h0 h1
    rw [e, Option.bind_some, if_neg (by omega), if_neg (by omega)]
    refine ⟨_, _, _, rfl, ?_, by first | omega | (dsimp only; omega), by first | omega | (dsimp only; omega)⟩
    dsimp only
    rw [Int.tmod_eq_emod_of_nonneg hv.1]
    exact ⟨Int.emod_nonneg _ (by omega), Int.emod_lt_of_pos _ (by omega)⟩
theorem among_some (l : List Int) (hl : Bytes l) (a s : Int) (xs : List Int) (h0 : 0 ≤ a) (h1 : a ≤ 1000000) (hx : 1 ≤ xs.length) (hx2 : xs.length ≤ 200) : ∃ v a' s', spec_l1Cur_among.f l a s xs = some (v, a', s') ∧ a ≤ a' ∧ a' ≤ a + 1 := by
  unfold spec_l1Cur_among.f
  obtain ⟨v, a', s', e, hv, ha⟩ := pick_some l hl a s (xs.length : Int) h0 h1 (by omega) (by omega)
  rw [e, Option.bind_some, if_pos hv.1, if_pos hv.2]
  exact ⟨_, _, _, rfl, ha.1, ha.2⟩
theorem ratioAge_some (l : List Int) (hl : Bytes l) (a s : Int) (h0 : 0 ≤ a) (h1 : a ≤ 1000000) : ∃ v a' s', spec_l1Cur_ratioAge.f l a s = some (v, a', s') ∧ a ≤ a' ∧ a' ≤ a + 1 := by
  unfold spec_l1Cur_ratioAge.f
  obtain ⟨v, a', s', e, ha⟩ := among_some l hl a s [0, 1, 3, 5, 8, 9, 12, 14, 20, 25, 33, 40, 60, 120, 121, (-1)] h0 h1 (by decide) (by decide)
  rw [e, Option.bind_some]
  exact ⟨_, _, _, rfl, ha⟩
theorem sureRatio_some (l : List Int) (hl : Bytes l) (a s : Int) (h0 : 0 ≤ a) (h1 : a ≤ 900000) : ∃ p q a' s', spec_l1Cur_sureRatio.f l a s = some (p, q, a', s') ∧ a ≤ a' ∧ a' ≤ a + 2 := by
  unfold spec_l1Cur_sureRatio.f
  obtain ⟨v, a', s', e, ha⟩ := among_some l hl a s [1, 2, 3, 4, 5, 7] h0 (by omega) (by decide) (by decide)
  obtain ⟨v2, a2, s2, e2, ha2⟩ := among_some l hl a' s' [1, 1, 2, 3, 5] (by omega) (by omega) (by decide) (by decide)
  rw [e, Option.bind_some, e2, Option.bind_some]
  exact ⟨_, _, _, _, rfl, by first | omega | (dsimp only; omega), by first | omega | (dsimp only; omega)⟩
theorem ratio_some (l : List Int) (hl : Bytes l) (a s : Int) (h0 : 0 ≤ a) (h1 : a ≤ 800000) : ∃ p q a' s', spec_l1Cur_ratio.f l a s = some (p, q, a', s') ∧ a ≤ a' ∧ a' ≤ a + 4 := by
  unfold spec_l1Cur_ratio.f
  obtain ⟨p, q, a', s', e, ha⟩ := sureRatio_some l hl a s h0 (by omega)
  obtain ⟨v2, a2, s2, e2, _, ha2⟩ := pick_some l hl a' s' 20 (by omega) (by omega) (by decide) (by decide)
  obtain ⟨v3, a3, s3, e3, ha3⟩ := among_some l hl a2 s2 [0, (-1), 100, 101, 4611686018427387904] (by omega) (by omega) (by decide) (by decide)
  rw [e, Option.bind_some, e2, Option.bind_some]
  dsimp only
  rw [e3]
  by_cases h : v2 = 0
  · rw [if_pos h]; exact ⟨_, _, _, _, rfl, by first | omega | (dsimp only; omega), by first | omega | (dsimp only; omega)⟩
  · rw [if_neg h]
    by_cases h' : v2 = 1
    · rw [if_pos h']; exact ⟨_, _, _, _, rfl, by first | omega | (dsimp only; omega), by first | omega | (dsimp only; omega)⟩
    · rw [if_neg h']; exact ⟨_, _, _, _, rfl, by first | omega | (dsimp only; omega), by first | omega | (dsimp only; omega)⟩
theorem drawY (l : List Int) (hl : Bytes l) : ∃ a b p q, spec_DrawYearsUntilRatio.f l = some (a, b, p, q) := by
  unfold spec_DrawYearsUntilRatio.f
  obtain ⟨v, a1, s1, e1, h1⟩ := ratioAge_some l hl 0 0 (by omega) (by omega)
  obtain ⟨v2, a2, s2, e2, h2⟩ := ratioAge_some l hl a1 s1 (by omega) (by omega)
  obtain ⟨p, q, a3, s3, e3, h3⟩ := ratio_some l hl a2 s2 (by omega) (by omega)
  rw [e1, Option.bind_some, e2, Option.bind_some, e3, Option.bind_some]
  exact ⟨_, _, _, _, rfl⟩
theorem drawS (l : List Int) (hl : Bytes l) : ∃ a p q, spec_DrawAgesFromSum.f l = some (a, p, q) := by
  unfold spec_DrawAgesFromSum.f
  obtain ⟨v, a1, s1, e1, h1⟩ := among_some l hl 0 0 [1, 7, 20, 60, 100, 1000, 1001, 0] (by omega) (by omega) (by decide) (by decide)
  obtain ⟨p, q, a3, s3, e3, h3⟩ := ratio_some l hl a1 s1 (by omega) (by omega)
  rw [e1, Option.bind_some, e3, Option.bind_some]
  exact ⟨_, _, _, rfl⟩
theorem drawG (l : List Int) (hl : Bytes l) : ∃ a p q, spec_DrawAgesFromGap.f l = some (a, p, q) := by
  unfold spec_DrawAgesFromGap.f
  obtain ⟨v, a1, s1, e1, h1⟩ := among_some l hl 0 0 [1, 5, 20, 28, (-3), (-10), 0, 120, 121, (-120)] (by omega) (by omega) (by decide) (by decide)
  obtain ⟨p, q, a3, s3, e3, h3⟩ := ratio_some l hl a1 s1 (by omega) (by omega)
  rw [e1, Option.bind_some, e3, Option.bind_some]
  exact ⟨_, _, _, rfl⟩
theorem drawT (l : List Int) (hl : Bytes l) : ∃ p q u v y, spec_DrawAgesFromTwo.f l = some (p, q, u, v, y) := by
  unfold spec_DrawAgesFromTwo.f
  obtain ⟨p, q, a1, s1, e1, h1⟩ := ratio_some l hl 0 0 (by omega) (by omega)
  obtain ⟨u, v, a2, s2, e2, h2⟩ := ratio_some l hl a1 s1 (by omega) (by omega)
  obtain ⟨y, a3, s3, e3, h3⟩ := among_some l hl a2 s2 [1, 2, 5, 10, (-1), (-4), 0, 120, 121] (by omega) (by omega) (by decide) (by decide)
  rw [e1, Option.bind_some, e2, Option.bind_some, e3, Option.bind_some]
  exact ⟨_, _, _, _, _, rfl⟩
theorem drawH (l : List Int) (hl : Bytes l) : ∃ p q u v x y, spec_DrawAgesFromThen.f l = some (p, q, u, v, x, y) := by
  unfold spec_DrawAgesFromThen.f
  obtain ⟨p, q, a1, s1, e1, h1⟩ := ratio_some l hl 0 0 (by omega) (by omega)
  obtain ⟨u, v, a2, s2, e2, h2⟩ := ratio_some l hl a1 s1 (by omega) (by omega)
  obtain ⟨x, a3, s3, e3, h3⟩ := among_some l hl a2 s2 [1, 2, 5, 10, 0, 60] (by omega) (by omega) (by decide) (by decide)
  obtain ⟨y, a4, s4, e4, h4⟩ := among_some l hl a3 s3 [1, 3, 5, 10, 60, 61, 0] (by omega) (by omega) (by decide) (by decide)
  rw [e1, Option.bind_some, e2, Option.bind_some, e3, Option.bind_some, e4, Option.bind_some]
  exact ⟨_, _, _, _, _, _, rfl⟩
theorem drawR (l : List Int) (hl : Bytes l) : ∃ p q, spec_DrawTurnRatio.f l = some (p, q) := by
  unfold spec_DrawTurnRatio.f spec_DrawIsRatio.f
  obtain ⟨p, q, a1, s1, e1, h1⟩ := ratio_some l hl 0 0 (by omega) (by omega)
  rw [e1, Option.bind_some, Option.bind_some]
  exact ⟨_, _, rfl⟩
end Go.Proofs.Ytnbolemfldmohaa.Pr
namespace Go.Proofs.Ytnbolemfldmohaa.Pure
open Go.RowKit Go.Proofs.Ytnbolemfldmohaa.P Go.Proofs.Ytnbolemfldmohaa.Pr Go.Proofs.YtnbolemfldmohaaW.PrintWords Go.Proofs.Ytnbolemfldmohaa.E Go.Proofs.Ytnbolemfldmohaa.Mth
namespace YearsUntilRatio
def val (a b p q : Int) : Int × Int × Bool := if (0 ≤ a ∧ a ≤ 120) ∧ (0 ≤ b ∧ b ≤ 120) ∧ good p q = true ∧ p ≠ q ∧ 0 < min a b * lowD (q * a - p * b) (p - q) + lowN (q * a - p * b) (p - q) then (lowN (q * a - p * b) (p - q), lowD (q * a - p * b) (p - q), true) else (0, 0, false)
theorem spec_j (a b p q : Int) (x : Bool) (ha : 0 ≤ a ∧ a ≤ 120) (hb : 0 ≤ b ∧ b ≤ 120) (hg : good p q = true) (hx : x = (p == q)) : Ev (fun k => spec_YearsUntilRatio.j0 k a b x p q) (val a b p q) := by
  unfold val
  have hp := (good_iff p q).1 hg
  refine Ev.step (f := fun k => _) (fun k => by rw [spec_YearsUntilRatio.j0]) ?_
  subst hx
  by_cases h : p = q
  · refine ifp (by simp [h]) ?_
    rw [if_neg (by intro h2; exact h2.2.2.2.1 h)]; exact now
  · have m1 := mulb q a 100 120 (by omega) (by omega)
    have m2 := mulb p b 100 120 (by omega) (by omega)
    have hd : p - q ≠ 0 := by omega
    have a1 := lowN_abs (q * a - p * b) (p - q) hd
    have a2 := lowD_bd (q * a - p * b) (p - q) hd (by omega)
    have m3 := mulb (min a b) (lowD (q * a - p * b) (p - q)) 120 10000 (by omega) (by omega)
    refine ifn (by simp [h]) ?_
    rw [w64 (q * a) (by omega), w64 (p * b) (by omega), w64 (q * a - p * b) (by omega), w64 (p - q) (by omega)]
    refine Ev.bind (raLow _ _ (by omega) (by omega) hd) (call (least a b) ?_)
    dsimp only
    rw [w64 (min a b * _) (by omega), w64 _ (by omega)]
    by_cases h4 : min a b * lowD (q * a - p * b) (p - q) + lowN (q * a - p * b) (p - q) ≤ 0
    · refine ifp h4 ?_
      rw [if_neg (by intro h2; have := h2.2.2.2.2; omega)]; exact now
    · refine ifn h4 ?_
      rw [if_pos ⟨ha, hb, hg, h, by omega⟩]; exact now
theorem spec_no (a b p q : Int) : Ev (fun k => spec_YearsUntilRatio.j0 k a b true p q) (0, 0, false) :=
  Ev.step (f := fun k => _) (fun k => by rw [spec_YearsUntilRatio.j0]) (ifp rfl now)
theorem spec_ (a b p q : Int) : Ev (fun k => spec_YearsUntilRatio.f k a b p q) (val a b p q) := by
  unfold spec_YearsUntilRatio.f
  refine call (raAge a) ?_
  by_cases h1 : 0 ≤ a ∧ a ≤ 120
  · refine ifp (by simpa using h1) (call (raAge b) ?_)
    by_cases h2 : 0 ≤ b ∧ b ≤ 120
    · refine ifp (by simpa using h2) (call (raGood p q) ?_)
      by_cases h3 : good p q = true
      · exact ifp h3 (spec_j a b p q _ h1 h2 h3 rfl)
      · refine ifn h3 (evEq (spec_no a b p q) ?_)
        unfold val; rw [if_neg (by intro h; exact h3 h.2.2.1)]
    · refine ifn (by simpa using h2) (evEq (spec_no a b p q) ?_)
      unfold val; rw [if_neg (by intro h; exact h2 h.2.1)]
  · refine ifn (by simpa using h1) (evEq (spec_no a b p q) ?_)
    unfold val; rw [if_neg (by intro h; exact h1 h.1)]
theorem both (n d a b : Int) (hd : 1 ≤ d) : allLater n d [a, b] = decide (0 < min a b * d + n) := by
  unfold allLater
  simp only [List.all_cons, List.all_nil, Bool.and_true]
  rcases Int.le_total a b with h | h
  · rw [show min a b = a by omega]
    have := Int.mul_le_mul_of_nonneg_right h (show 0 ≤ d by omega)
    by_cases h1 : 0 < a * d + n
    · simp [h1, show 0 < b * d + n by omega]
    · simp [h1]
  · rw [show min a b = b by omega]
    have := Int.mul_le_mul_of_nonneg_right h (show 0 ≤ d by omega)
    by_cases h1 : 0 < b * d + n
    · simp [h1, show 0 < a * d + n by omega]
    · simp [h1]
theorem impl_ (a b p q : Int) : Ev (fun k => impl_YearsUntilRatio.f k a b p q) (val a b p q) := by
  unfold impl_YearsUntilRatio.f
  refine call (isAge a) ?_
  by_cases h1 : 0 ≤ a ∧ a ≤ 120
  · refine ifp (by simpa using h1) (call (isAge b) ?_)
    by_cases h2 : 0 ≤ b ∧ b ≤ 120
    · refine ifp (by simpa using h2) (call (isRatio p q) ?_)
      by_cases h3 : good p q = true
      · refine ifp h3 ?_
        have hp := (good_iff p q).1 h3
        have m1 := mulb q a 100 120 (by omega) (by omega)
        have m2 := mulb p b 100 120 (by omega) (by omega)
        rw [w64 (q * a) (by omega), w64 (p * b) (by omega), w64 (p * b - q * a) (by omega), w64 (q - p) (by omega)]
        refine Ev.bind (yearsOf (p * b - q * a) (q - p) [a, b] (by intro x hx; simp at hx; omega) (by omega) (by omega) (by simp)) (evEq now ?_)
        unfold val
        by_cases h : p = q
        · rw [if_neg (by simp [h]), if_neg (by intro h2; exact h2.2.2.2.1 h)]
        · have hd : p - q ≠ 0 := by omega
          have e1 := lowN_neg (q * a - p * b) (p - q) hd
          have e2 := lowD_neg (q * a - p * b) (p - q) hd
          rw [Int.neg_sub, Int.neg_sub] at e1 e2
          rw [e1, e2, both _ _ _ _ (lowD_pos _ _ hd)]
          by_cases h4 : 0 < min a b * lowD (q * a - p * b) (p - q) + lowN (q * a - p * b) (p - q)
          · rw [if_pos ⟨by omega, by simpa using h4⟩, if_pos ⟨h1, h2, h3, h, h4⟩]
          · rw [if_neg (by intro h5; exact h4 (by simpa using h5.2)), if_neg (by intro h5; exact h4 h5.2.2.2.2)]
      · refine ifn h3 (evEq now ?_)
        unfold val; rw [if_neg (by intro h; exact h3 h.2.2.1)]
    · refine ifn (by simpa using h2) (evEq now ?_)
      unfold val; rw [if_neg (by intro h; exact h2 h.2.1)]
  · refine ifn (by simpa using h1) (evEq now ?_)
    unfold val; rw [if_neg (by intro h; exact h1 h.1)]
end YearsUntilRatio
end Go.Proofs.Ytnbolemfldmohaa.Pure
namespace Go.Proofs.Ytnbolemfldmohaa.Pure
open Go.RowKit Go.Proofs.Ytnbolemfldmohaa.P Go.Proofs.Ytnbolemfldmohaa.Pr Go.Proofs.YtnbolemfldmohaaW.PrintWords Go.Proofs.YtnbolemfldmohaaW.PrintMore Go.Proofs.Ytnbolemfldmohaa.E Go.Proofs.Ytnbolemfldmohaa.Mth
namespace NearestYear
theorem lt_scale (x y q : Int) (hq : 1 ≤ q) : x * q < y * q ↔ x < y := by
  constructor
  · intro h
    rcases Int.lt_or_le x y with h1 | h1
    · exact h1
    · have := Int.mul_le_mul_of_nonneg_right h1 (show 0 ≤ q by omega)
      omega
  · intro h
    have := Int.mul_le_mul_of_nonneg_right (show x + 1 ≤ y by omega) (show 0 ≤ q by omega)
    rw [Int.add_mul] at this
    omega
theorem loop (a b p q : Int) (ha : 0 ≤ a ∧ a ≤ 120) (hb : 0 ≤ b ∧ b ≤ 120) (hp : 1 ≤ p ∧ p ≤ 100) (hq : 1 ≤ q ∧ q ≤ 100) (n : Nat) : ∀ (t best num den off by_ : Int) (found : Bool), 1 - b ≤ t → -200 ≤ t → (121 - t).toNat ≤ n →
    (found = false ∧ num = -1 ∨ found = true ∧ num = off ∧ (0 ≤ off ∧ off ≤ 100000) ∧ (1 ≤ by_ ∧ by_ ≤ 240) ∧ den = by_ * q) →
    ∃ v : Int × Bool, Ev (fun k => spec_NearestYear.l0 k a b best num den t p q) v ∧ Ev (fun k => impl_NearestYear.l0 k a b best off by_ found t p q) v := by
  induction n with
  | zero =>
    intro t best num den off by_ found h0 h1 h2 h3
    exact ⟨(best, true), Ev.step (f := fun k => _) (fun k => by rw [spec_NearestYear.l0]) (ifn (by omega) now), Ev.step (f := fun k => _) (fun k => by rw [impl_NearestYear.l0]) (ifn (by omega) now)⟩
  | succ n ih =>
    intro t best num den off by_ found h0 h1 h2 h3
    by_cases ht : t ≤ 120
    · have m1 := mulb (a + t) q 320 100 (by omega) (by omega)
      have m2 := mulb p (b + t) 100 240 (by omega) (by omega)
      have m3 := mulb (b + t) q 240 100 (by omega) (by omega)
      have hd : ∃ d : Int, d = (((a + t) * q - p * (b + t)).natAbs : Int) ∧ 0 ≤ d ∧ d ≤ 100000 := ⟨_, rfl, by omega, by omega⟩
      obtain ⟨d, hd, hd0, hd1⟩ := hd
      have s1 : ∀ r, Ev (fun k => if t ≤ 120 then ((some d : Option Int).bind fun t149 => (if num < 0 then (spec_NearestYear.l0 k a b t t149 ((b + t) * q) (t + 1) p q) else (if (wrap64 (t149 * den)) < (wrap64 (num * ((b + t) * q))) then (spec_NearestYear.l0 k a b t t149 ((b + t) * q) (t + 1) p q) else (spec_NearestYear.l0 k a b best num den (t + 1) p q)))) else (some (best, true))) r → Ev (fun k => spec_NearestYear.l0 k a b best num den t p q) r := by
        intro r h
        refine Ev.step (f := fun k => _) (fun k => by rw [spec_NearestYear.l0]) ?_
        rw [w64 (a + t) (by omega), w64 (b + t) (by omega), w64 (t + 1) (by omega), w64 ((a + t) * q) (by omega), w64 (p * (b + t)) (by omega), w64 ((b + t) * q) (by omega), w64 ((a + t) * q - p * (b + t)) (by omega), abs_ _ (by omega), ← hd]
        exact h
      have s2 : ∀ r, Ev (fun k => if t ≤ 120 then (if found = true then (if (wrap64 (d * by_)) < (wrap64 (off * (b + t))) then (impl_NearestYear.l0 k a b t d (b + t) true (t + 1) p q) else (impl_NearestYear.l0 k a b best off by_ found (t + 1) p q)) else (impl_NearestYear.l0 k a b t d (b + t) true (t + 1) p q)) else (some (best, true))) r → Ev (fun k => impl_NearestYear.l0 k a b best off by_ found t p q) r := by
        intro r h
        refine Ev.step (f := fun k => _) (fun k => by rw [impl_NearestYear.l0]) ?_
        rw [w64 (a + t) (by omega), w64 (b + t) (by omega), w64 (t + 1) (by omega), w64 ((a + t) * q) (by omega), w64 (p * (b + t)) (by omega), w64 ((a + t) * q - p * (b + t)) (by omega), mx_neg _ (by omega), ← hd]
        exact h
      rcases h3 with ⟨hf, hn⟩ | ⟨hf, hn, ho, hby, hden⟩
      · obtain ⟨v, e1, e2⟩ := ih (t + 1) t d ((b + t) * q) d (b + t) true (by omega) (by omega) (by omega) (.inr ⟨rfl, rfl, ⟨hd0, hd1⟩, by omega, rfl⟩)
        exact ⟨v, s1 _ (ifp ht (call rfl (ifp (by omega) e1))), s2 _ (ifp ht (ifn (by simp [hf]) e2))⟩
      · have m4 := mulb d by_ 100000 240 (by omega) (by omega)
        have m5 := mulb off (b + t) 100000 240 (by omega) (by omega)
        have m6 := mulb (d * by_) q _ 100 m4 (by omega)
        have m7 := mulb (off * (b + t)) q _ 100 m5 (by omega)
        have e5 : d * den = d * by_ * q := by rw [hden, Int.mul_assoc]
        have e6 : num * ((b + t) * q) = off * (b + t) * q := by rw [hn, Int.mul_assoc]
        by_cases hc : d * by_ < off * (b + t)
        · obtain ⟨v, e1, e2⟩ := ih (t + 1) t d ((b + t) * q) d (b + t) true (by omega) (by omega) (by omega) (.inr ⟨rfl, rfl, ⟨hd0, hd1⟩, by omega, rfl⟩)
          refine ⟨v, s1 _ (ifp ht (call rfl (ifn (by omega) (ifp ?_ e1)))), s2 _ (ifp ht (ifp hf (ifp ?_ e2)))⟩
          · rw [e5, e6, w64 _ (by omega), w64 _ (by omega)]; exact (lt_scale _ _ q hq.1).2 hc
          · rw [w64 _ (by omega), w64 _ (by omega)]; exact hc
        · obtain ⟨v, e1, e2⟩ := ih (t + 1) best num den off by_ found (by omega) (by omega) (by omega) (.inr ⟨hf, hn, ho, hby, hden⟩)
          refine ⟨v, s1 _ (ifp ht (call rfl (ifn (by omega) (ifn ?_ e1)))), s2 _ (ifp ht (ifp hf (ifn ?_ e2)))⟩
          · rw [e5, e6, w64 _ (by omega), w64 _ (by omega)]; exact fun h => hc ((lt_scale _ _ q hq.1).1 h)
          · rw [w64 _ (by omega), w64 _ (by omega)]; exact hc
    · exact ⟨(best, true), Ev.step (f := fun k => _) (fun k => by rw [spec_NearestYear.l0]) (ifn ht now), Ev.step (f := fun k => _) (fun k => by rw [impl_NearestYear.l0]) (ifn ht now)⟩
theorem spec_no (a b p q : Int) : Ev (fun k => spec_NearestYear.j0 k a b true p q) (0, false) := Ev.step (f := fun k => _) (fun k => by rw [spec_NearestYear.j0]) (ifp rfl now)
theorem impl_no (a b p q : Int) : Ev (fun k => impl_NearestYear.j0 k a b true p q) (0, false) := Ev.step (f := fun k => _) (fun k => by rw [impl_NearestYear.j0]) (ifp rfl now)
theorem both (a b p q : Int) : ∃ v : Int × Bool, Ev (fun k => spec_NearestYear.f k a b p q) v ∧ Ev (fun k => impl_NearestYear.f k a b p q) v := by
  unfold spec_NearestYear.f impl_NearestYear.f
  by_cases h : two a b = true
  · have h' : (0 ≤ a ∧ a ≤ 120) ∧ 0 ≤ b ∧ b ≤ 120 := by
      unfold two at h; simp at h; omega
    by_cases hg : good p q = true
    · have hp := (good_iff p q).1 hg
      obtain ⟨v, e1, e2⟩ := loop a b p q (by omega) (by omega) (by omega) (by omega) _ (1 - min a b) 0 (-1) 1 0 1 false (by omega) (by omega) (Nat.le_refl _) (.inl ⟨rfl, rfl⟩)
      refine ⟨v, call (raTwo a b) (ifp h (call (raGood p q) ?_)), call (areUnlike a b) (ifp h (call (isRatio p q) ?_))⟩
      · rw [hg]
        refine Ev.step (f := fun k => _) (fun k => by rw [spec_NearestYear.j0]) (ifn (by simp) (call (least a b) ?_))
        rw [w64 _ (by omega)]; exact e1
      · rw [hg]
        refine Ev.step (f := fun k => _) (fun k => by rw [impl_NearestYear.j0]) (ifn (by simp) ?_)
        rw [mn_, w64 _ (by omega)]; exact e2
    · have hg : good p q = false := by simpa using hg
      refine ⟨(0, false), call (raTwo a b) (ifp h (call (raGood p q) ?_)), call (areUnlike a b) (ifp h (call (isRatio p q) ?_))⟩
      · rw [hg]; exact spec_no a b p q
      · rw [hg]; exact impl_no a b p q
  · exact ⟨(0, false), call (raTwo a b) (ifn h (spec_no a b p q)), call (areUnlike a b) (ifn h (impl_no a b p q))⟩
end NearestYear
end Go.Proofs.Ytnbolemfldmohaa.Pure
namespace Go.Proofs.Ytnbolemfldmohaa.Pure.NearestYear
open Go.RowKit Go.Proofs.Ytnbolemfldmohaa.P Go.Proofs.Ytnbolemfldmohaa.Pr Go.Proofs.YtnbolemfldmohaaW.PrintWords Go.Proofs.YtnbolemfldmohaaW.PrintMore Go.Proofs.Ytnbolemfldmohaa.E Go.Proofs.Ytnbolemfldmohaa.Mth
theorem diff (a b p q y t : Int) (hy : (a + y) * q = p * (b + y)) : (a + t) * q - p * (b + t) = (t - y) * (q - p) := by grind
theorem diff_pos (a b p q y t : Int) (hpq : p ≠ q) (hy : (a + y) * q = p * (b + y)) (h : t ≠ y) : 1 ≤ (((a + t) * q - p * (b + t)).natAbs : Int) := by
  rw [diff a b p q y t hy]
  have : (t - y) * (q - p) ≠ 0 := fun e => by
    rcases Int.mul_eq_zero.1 e with e | e <;> omega
  omega
theorem diff_zero (a b p q y : Int) (hy : (a + y) * q = p * (b + y)) : (((a + y) * q - p * (b + y)).natAbs : Int) = 0 := by
  rw [hy, Int.sub_self]; rfl
theorem step_ (a b p q : Int) (ha : 0 ≤ a ∧ a ≤ 120) (hb : 0 ≤ b ∧ b ≤ 120) (hp : 1 ≤ p ∧ p ≤ 100) (hq : 1 ≤ q ∧ q ≤ 100) (t best off by_ : Int) (found : Bool) (h0 : 1 - b ≤ t) (h1 : -200 ≤ t) (ht : t ≤ 120) (d : Int) (hd : d = (((a + t) * q - p * (b + t)).natAbs : Int)) (r : Int × Bool)
    (h : Ev (fun k => (if found = true then (if (wrap64 (d * by_)) < (wrap64 (off * (b + t))) then (impl_NearestYear.l0 k a b t d (b + t) true (t + 1) p q) else (impl_NearestYear.l0 k a b best off by_ found (t + 1) p q)) else (impl_NearestYear.l0 k a b t d (b + t) true (t + 1) p q))) r) : Ev (fun k => impl_NearestYear.l0 k a b best off by_ found t p q) r := by
  have m1 := mulb (a + t) q 320 100 (by omega) (by omega)
  have m2 := mulb p (b + t) 100 240 (by omega) (by omega)
  refine Ev.step (f := fun k => _) (fun k => by rw [impl_NearestYear.l0]) ?_
  rw [w64 (a + t) (by omega), w64 (b + t) (by omega), w64 (t + 1) (by omega), w64 ((a + t) * q) (by omega), w64 (p * (b + t)) (by omega), w64 ((a + t) * q - p * (b + t)) (by omega), mx_neg _ (by omega), ← hd]
  exact ifp ht h
theorem d_bd (a b p q : Int) (ha : 0 ≤ a ∧ a ≤ 120) (hb : 0 ≤ b ∧ b ≤ 120) (hp : 1 ≤ p ∧ p ≤ 100) (hq : 1 ≤ q ∧ q ≤ 100) (t : Int) (h0 : 1 - b ≤ t) (h1 : -200 ≤ t) (ht : t ≤ 120) : (((a + t) * q - p * (b + t)).natAbs : Int) ≤ 100000 := by
  have m1 := mulb (a + t) q 320 100 (by omega) (by omega)
  have m2 := mulb p (b + t) 100 240 (by omega) (by omega)
  omega
theorem after (a b p q y : Int) (ha : 0 ≤ a ∧ a ≤ 120) (hb : 0 ≤ b ∧ b ≤ 120) (hp : 1 ≤ p ∧ p ≤ 100) (hq : 1 ≤ q ∧ q ≤ 100) (n : Nat) : ∀ t by_ : Int, 1 - b ≤ t → -200 ≤ t → (121 - t).toNat ≤ n → (1 ≤ by_ ∧ by_ ≤ 240) → Ev (fun k => impl_NearestYear.l0 k a b y 0 by_ true t p q) (y, true) := by
  induction n with
  | zero =>
    intro t by_ h0 h1 h2 _
    exact Ev.step (f := fun k => _) (fun k => by rw [impl_NearestYear.l0]) (ifn (by omega) now)
  | succ n ih =>
    intro t by_ h0 h1 h2 hby
    by_cases ht : t ≤ 120
    · have hd1 := d_bd a b p q ha hb hp hq t h0 h1 ht
      refine step_ a b p q ha hb hp hq t y 0 by_ true h0 h1 ht _ rfl _ ?_
      have hd0 : 0 ≤ (((a + t) * q - p * (b + t)).natAbs : Int) := by omega
      generalize (((a + t) * q - p * (b + t)).natAbs : Int) = d at hd1 hd0 ⊢
      have m4 := mulb d by_ 100000 240 (by omega) (by omega)
      have m5 : 0 ≤ d * by_ := Int.mul_nonneg hd0 (by omega)
      refine ifp rfl (ifn ?_ (ih (t + 1) by_ (by omega) (by omega) (by omega) hby))
      rw [Int.zero_mul, w64 _ (by omega), w64 0 (by decide)]
      omega
    · exact Ev.step (f := fun k => _) (fun k => by rw [impl_NearestYear.l0]) (ifn ht now)
theorem before (a b p q y : Int) (ha : 0 ≤ a ∧ a ≤ 120) (hb : 0 ≤ b ∧ b ≤ 120) (hp : 1 ≤ p ∧ p ≤ 100) (hq : 1 ≤ q ∧ q ≤ 100) (hpq : p ≠ q) (hy : (a + y) * q = p * (b + y)) (hy1 : y ≤ 120) (n : Nat) : ∀ (t best off by_ : Int) (found : Bool), 1 - b ≤ t → -200 ≤ t → t ≤ y → (y - t).toNat ≤ n → (found = false ∨ found = true ∧ (1 ≤ off ∧ off ≤ 100000) ∧ (1 ≤ by_ ∧ by_ ≤ 240)) → Ev (fun k => impl_NearestYear.l0 k a b best off by_ found t p q) (y, true) := by
  induction n with
  | zero =>
    intro t best off by_ found h0 h1 h2 h3 h4
    obtain rfl : t = y := by omega
    refine step_ a b p q ha hb hp hq t best off by_ found h0 h1 hy1 0 (diff_zero a b p q t hy).symm _ ?_
    have e := after a b p q t ha hb hp hq _ (t + 1) (b + t) (by omega) (by omega) (Nat.le_refl _) (by omega)
    rcases h4 with rfl | ⟨rfl, ho, hby⟩
    · exact ifn (by simp) e
    · have m5 := mulb off (b + t) 100000 240 (by omega) (by omega)
      have m6 : 0 < off * (b + t) := Int.mul_pos (by omega) (by omega)
      refine ifp rfl (ifp ?_ e)
      rw [Int.zero_mul, w64 _ (by omega), w64 _ (by omega)]
      omega
  | succ n ih =>
    intro t best off by_ found h0 h1 h2 h3 h4
    by_cases hty : t = y
    · subst hty
      refine step_ a b p q ha hb hp hq t best off by_ found h0 h1 hy1 0 (diff_zero a b p q t hy).symm _ ?_
      have e := after a b p q t ha hb hp hq _ (t + 1) (b + t) (by omega) (by omega) (Nat.le_refl _) (by omega)
      rcases h4 with rfl | ⟨rfl, ho, hby⟩
      · exact ifn (by simp) e
      · have m5 := mulb off (b + t) 100000 240 (by omega) (by omega)
        have m6 : 0 < off * (b + t) := Int.mul_pos (by omega) (by omega)
        refine ifp rfl (ifp ?_ e)
        rw [Int.zero_mul, w64 _ (by omega), w64 _ (by omega)]
        omega
    · have hd1 := d_bd a b p q ha hb hp hq t h0 h1 (by omega)
      have hd0 := diff_pos a b p q y t hpq hy hty
      refine step_ a b p q ha hb hp hq t best off by_ found h0 h1 (by omega) _ rfl _ ?_
      generalize (((a + t) * q - p * (b + t)).natAbs : Int) = d at hd1 hd0 ⊢
      have e := ih (t + 1) t d (b + t) true (by omega) (by omega) (by omega) (by omega) (.inr ⟨rfl, ⟨hd0, hd1⟩, by omega⟩)
      rcases h4 with rfl | ⟨rfl, ho, hby⟩
      · exact ifn (by simp) e
      · by_cases hc : (wrap64 (d * by_)) < (wrap64 (off * (b + t)))
        · exact ifp rfl (ifp hc e)
        · exact ifp rfl (ifn hc (ih (t + 1) best off by_ true (by omega) (by omega) (by omega) (by omega) (.inr ⟨rfl, ho, hby⟩)))
theorem exact_ (a b p q y : Int) (h : two a b = true) (hg : good p q = true) (hpq : p ≠ q) (hy : (a + y) * q = p * (b + y)) (hy0 : 1 - min a b ≤ y) (hy1 : y ≤ 120) : Ev (fun k => impl_NearestYear.f k a b p q) (y, true) := by
  have h' : (0 ≤ a ∧ a ≤ 120) ∧ 0 ≤ b ∧ b ≤ 120 := by
    unfold two at h; simp at h; omega
  have hp := (good_iff p q).1 hg
  unfold impl_NearestYear.f
  refine call (areUnlike a b) (ifp h (call (isRatio p q) ?_))
  rw [hg]
  refine Ev.step (f := fun k => _) (fun k => by rw [impl_NearestYear.j0]) (ifn (by simp) ?_)
  rw [mn_, w64 _ (by omega)]
  exact before a b p q y h'.1 h'.2 (by omega) (by omega) hpq hy hy1 _ (1 - min a b) _ _ _ false (by omega) (by omega) hy0 (Nat.le_refl _) (.inl rfl)
end Go.Proofs.Ytnbolemfldmohaa.Pure.NearestYear
namespace Go.Proofs.Ytnbolemfldmohaa.Pure
open Go.RowKit Go.Proofs.Ytnbolemfldmohaa.P Go.Proofs.Ytnbolemfldmohaa.Pr Go.Proofs.YtnbolemfldmohaaW.PrintWords Go.Proofs.Ytnbolemfldmohaa.E Go.Proofs.Ytnbolemfldmohaa.Mth
namespace AgesFromSum
def val (a p q : Int) : Int × Int × Int × Bool := if (1 ≤ a ∧ a ≤ 1000) ∧ good p q = true then ((three (a * p) (a * q) (p + q)).1, (three (a * p) (a * q) (p + q)).2.1, (three (a * p) (a * q) (p + q)).2.2, true) else (0, 0, 0, false)
theorem spec_ (a p q : Int) : Ev (fun k => spec_AgesFromSum.f k a p q) (val a p q) := by
  unfold spec_AgesFromSum.f val
  refine call (l1In _ _ _) ?_
  by_cases h1 : 1 ≤ a ∧ a ≤ 1000
  · refine ifp (by simpa using h1) (call (raGood p q) ?_)
    by_cases h2 : good p q = true
    · refine ifp h2 ?_
      have hb := (good_iff p q).1 h2
      have m2 := mulb a p 1000 100 (by omega) (by omega)
      have m3 := mulb a q 1000 100 (by omega) (by omega)
      rw [w64 (p + q) (by omega), w64 (a * p) (by omega), w64 (a * q) (by omega)]
      refine Ev.bind (raThree _ _ _ (by omega) (by omega) (by omega) (by omega)) ?_
      rw [if_pos ⟨h1, h2⟩]; exact now
    · refine ifn h2 ?_
      rw [if_neg (by intro h; exact h2 h.2)]; exact now
  · refine ifn (by simpa using h1) ?_
    rw [if_neg (by intro h; exact h1 h.1)]; exact now
theorem impl_ (a p q : Int) : Ev (fun k => impl_AgesFromSum.f k a p q) (val a p q) := by
  unfold impl_AgesFromSum.f val
  refine call (between _ _ _) ?_
  by_cases h1 : 1 ≤ a ∧ a ≤ 1000
  · refine ifp (by simpa using h1) (call (isRatio p q) ?_)
    by_cases h2 : good p q = true
    · refine ifp h2 ?_
      have hb := (good_iff p q).1 h2
      have m2 := mulb a p 1000 100 (by omega) (by omega)
      have m3 := mulb a q 1000 100 (by omega) (by omega)
      rw [w64 (p + q) (by omega), w64 (a * p) (by omega), w64 (a * q) (by omega)]
      refine Ev.bind (twoAges _ _ _ (by omega) (by omega) (by omega) (by omega)) ?_
      rw [if_pos ⟨h1, h2⟩]; exact now
    · refine ifn h2 ?_
      rw [if_neg (by intro h; exact h2 h.2)]; exact now
  · refine ifn (by simpa using h1) ?_
    rw [if_neg (by intro h; exact h1 h.1)]; exact now
end AgesFromSum
end Go.Proofs.Ytnbolemfldmohaa.Pure
namespace Go.Proofs.Ytnbolemfldmohaa.Pure
open Go.RowKit Go.Proofs.Ytnbolemfldmohaa.P Go.Proofs.Ytnbolemfldmohaa.Pr Go.Proofs.YtnbolemfldmohaaW.PrintWords Go.Proofs.Ytnbolemfldmohaa.E Go.Proofs.Ytnbolemfldmohaa.Mth
namespace AgesFromGap
def val (a p q : Int) : Int × Int × Int × Bool := if (-120 ≤ a ∧ a ≤ 120) ∧ good p q = true ∧ 0 < a * (p - q) then ((three (a * p) (a * q) (p - q)).1, (three (a * p) (a * q) (p - q)).2.1, (three (a * p) (a * q) (p - q)).2.2, true) else (0, 0, 0, false)
theorem spec_ (a p q : Int) : Ev (fun k => spec_AgesFromGap.f k a p q) (val a p q) := by
  unfold spec_AgesFromGap.f val
  refine call (l1In _ _ _) ?_
  by_cases h1 : -120 ≤ a ∧ a ≤ 120
  · refine ifp (by simpa using h1) ?_
    by_cases h0 : a = 0
    · refine ifp h0 ?_
      rw [if_neg (by subst h0; simp)]; exact now
    · refine ifn h0 (call (raGood p q) ?_)
      by_cases h2 : good p q = true
      · refine ifp h2 ?_
        have hb := (good_iff p q).1 h2
        have m1 := mulb (p - q) a 100 120 (by omega) (by omega)
        have m2 := mulb a p 120 100 (by omega) (by omega)
        have m3 := mulb a q 120 100 (by omega) (by omega)
        rw [w64 (p - q) (by omega), w64 ((p - q) * a) (by omega), w64 (a * p) (by omega), w64 (a * q) (by omega), Int.mul_comm (p - q) a]
        by_cases h3 : a * (p - q) ≤ 0
        · refine ifp h3 ?_
          rw [if_neg (by omega)]; exact now
        · have hd : p - q ≠ 0 := by intro e; rw [e] at h3; simp at h3
          refine ifn h3 (Ev.bind (raThree _ _ _ (by omega) (by omega) (by omega) hd) ?_)
          rw [if_pos ⟨h1, h2, by omega⟩]; exact now
      · refine ifn h2 ?_
        rw [if_neg (by intro h; exact h2 h.2.1)]; exact now
  · refine ifn (by simpa using h1) ?_
    rw [if_neg (by intro h; exact h1 h.1)]; exact now
theorem impl_ (a p q : Int) : Ev (fun k => impl_AgesFromGap.f k a p q) (val a p q) := by
  unfold impl_AgesFromGap.f val
  refine call (between _ _ _) ?_
  by_cases h1 : -120 ≤ a ∧ a ≤ 120
  · refine ifp (by simpa using h1) (call (isRatio p q) ?_)
    by_cases h2 : good p q = true
    · refine ifp h2 ?_
      have hb := (good_iff p q).1 h2
      have m1 := mulb a (p - q) 120 100 (by omega) (by omega)
      have m2 := mulb a p 120 100 (by omega) (by omega)
      have m3 := mulb a q 120 100 (by omega) (by omega)
      rw [w64 (p - q) (by omega), w64 (a * (p - q)) (by omega), w64 (a * p) (by omega), w64 (a * q) (by omega)]
      by_cases h3 : a * (p - q) ≤ 0
      · refine ifp h3 ?_
        rw [if_neg (by omega)]; exact now
      · have hd : p - q ≠ 0 := by intro e; rw [e] at h3; simp at h3
        refine ifn h3 (Ev.bind (twoAges _ _ _ (by omega) (by omega) (by omega) hd) ?_)
        rw [if_pos ⟨h1, h2, by omega⟩]; exact now
    · refine ifn h2 ?_
      rw [if_neg (by intro h; exact h2 h.2.1)]; exact now
  · refine ifn (by simpa using h1) ?_
    rw [if_neg (by intro h; exact h1 h.1)]; exact now
end AgesFromGap
end Go.Proofs.Ytnbolemfldmohaa.Pure
namespace Go.Proofs.Ytnbolemfldmohaa.Pure
open Go.RowKit Go.Proofs.Ytnbolemfldmohaa.P Go.Proofs.Ytnbolemfldmohaa.Pr Go.Proofs.YtnbolemfldmohaaW.PrintWords Go.Proofs.Ytnbolemfldmohaa.E Go.Proofs.Ytnbolemfldmohaa.Mth
namespace AgesFromTwo
theorem impl_ (p q u v y : Int) : Ev (fun k => impl_AgesFromTwo.f k p q u v y) (if okTwo p q u v y then twoV p q u v y else (0, 0, 0, false)) := by
  unfold impl_AgesFromTwo.f
  have no : ¬ okTwo p q u v y → Ev (fun _ => some ((0, 0, 0, false) : Int × Int × Int × Bool)) (if okTwo p q u v y then twoV p q u v y else (0, 0, 0, false)) := fun h => by
    rw [if_neg h]; exact now
  refine call (isRatio p q) ?_
  by_cases h1 : good p q = true
  · refine ifp h1 (call (isRatio u v) ?_)
    by_cases h2 : good u v = true
    · refine ifp h2 (call (between y _ _) ?_)
      by_cases h3 : -120 ≤ y ∧ y ≤ 120
      · refine ifp (by simpa using h3) ?_
        by_cases h4 : y = 0
        · exact ifp h4 (no fun h => h.2.2.2 h4)
        · refine ifn h4 ?_
          rw [if_pos ⟨h1, h2, h3, h4⟩]
          exact Ev.bind (impl_two p q u v y h1 h2 (by omega)) now
      · exact ifn (by simpa using h3) (no fun h => h3 h.2.2.1)
    · exact ifn h2 (no fun h => h2 h.2.1)
  · exact ifn h1 (no fun h => h1 h.1)
end AgesFromTwo
end Go.Proofs.Ytnbolemfldmohaa.Pure
namespace Go.Proofs.Ytnbolemfldmohaa.Pure
open Go.RowKit Go.Proofs.Ytnbolemfldmohaa.P Go.Proofs.Ytnbolemfldmohaa.Pr Go.Proofs.YtnbolemfldmohaaW.PrintWords Go.Proofs.Ytnbolemfldmohaa.E Go.Proofs.Ytnbolemfldmohaa.Mth
namespace AgesFromThen
def ok (p q u v x y : Int) : Prop := good p q = true ∧ good u v = true ∧ (1 ≤ x ∧ x ≤ 120) ∧ 1 ≤ y ∧ x + y ≤ 120
instance (p q u v x y : Int) : Decidable (ok p q u v x y) := by unfold ok; exact inferInstance
def val (p q u v x y : Int) : Int × Int × Int × Bool := if ok p q u v x y ∧ (twoV p q u v (x + y)).2.2.2 = true then ((twoV p q u v (x + y)).1 + x * (twoV p q u v (x + y)).2.2.1, (twoV p q u v (x + y)).2.1 + x * (twoV p q u v (x + y)).2.2.1, (twoV p q u v (x + y)).2.2.1, true) else (0, 0, 0, false)
theorem twoV_bd (p q u v y : Int) (h1 : good p q = true) (h2 : good u v = true) (hy : y.natAbs ≤ 120) : (twoV p q u v y).1.natAbs ≤ 20000000000 ∧ (twoV p q u v y).2.1.natAbs ≤ 20000000000 ∧ (twoV p q u v y).2.2.1.natAbs ≤ 100000000 := by
  have g1 := (good_iff p q).1 h1
  have g2 := (good_iff u v).1 h2
  have m1 := mulb v p 100 100 (by omega) (by omega)
  have m2 := mulb u q 100 100 (by omega) (by omega)
  have m3 := mulb (u - v) y 99 120 (by omega) hy
  have m4 := mulb p ((u - v) * y) 100 _ (by omega) m3
  have m5 := mulb q ((u - v) * y) 100 _ (by omega) m3
  have vp : 0 < v * p := Int.mul_pos (by omega) (by omega)
  have uq : 0 < u * q := Int.mul_pos (by omega) (by omega)
  unfold twoV
  split
  · rename_i h
    have b := three_bd (p * ((u - v) * y)) (q * ((u - v) * y)) (v * p - u * q) (by omega) (by omega) (by omega) h.1
    exact ⟨b.1, b.2.1, by dsimp only; omega⟩
  · exact ⟨by decide, by decide, by decide⟩
theorem spec_no (p q u v x y : Int) (h : ¬ ok p q u v x y) : Ev (fun k => spec_AgesFromThen.j0 k x y true p q u v) (val p q u v x y) := by
  unfold val; rw [if_neg (fun h2 => h h2.1)]
  exact Ev.step (f := fun k => _) (fun k => by rw [spec_AgesFromThen.j0]) (ifp rfl now)
theorem impl_no (p q u v x y : Int) (h : ¬ ok p q u v x y) : Ev (fun k => impl_AgesFromThen.j0 k x y true p q u v) (val p q u v x y) := by
  unfold val; rw [if_neg (fun h2 => h h2.1)]
  exact Ev.step (f := fun k => _) (fun k => by rw [impl_AgesFromThen.j0]) (ifp rfl now)
theorem spec_j (p q u v x y : Int) (hx : 1 ≤ x ∧ x ≤ 120) (hy : 1 ≤ y) (hxy : x + y ≤ 120) : Ev (fun k => spec_AgesFromThen.j0 k x y false p q u v) (val p q u v x y) := by
  refine Ev.step (f := fun k => _) (fun k => by rw [spec_AgesFromThen.j0]) (ifn (by simp) ?_)
  rw [w64 (x + y) (by omega)]
  refine Ev.bind (spec_Two p q u v (x + y)) ?_
  by_cases h : okTwo p q u v (x + y)
  · rw [if_pos h]
    have b := twoV_bd p q u v (x + y) h.1 h.2.1 (by omega)
    have m := mulb x (twoV p q u v (x + y)).2.2.1 120 100000000 (by omega) (by omega)
    have hok : ok p q u v x y := ⟨h.1, h.2.1, hx, hy, hxy⟩
    unfold val
    by_cases h2 : (twoV p q u v (x + y)).2.2.2 = true
    · refine ifp h2 (evEq ?_ (if_pos ⟨hok, h2⟩).symm)
      rw [w64 (x * _) (by omega), w64 _ (by omega), w64 _ (by omega)]
      exact now
    · exact ifn h2 (evEq now (if_neg (fun h3 => h2 h3.2)).symm)
  · rw [if_neg h]
    refine ifn (by simp) (evEq now ?_)
    unfold val; rw [if_neg (fun h2 => h ⟨h2.1.1, h2.1.2.1, by omega, by omega⟩)]
theorem spec_ (p q u v x y : Int) : Ev (fun k => spec_AgesFromThen.f k p q u v x y) (val p q u v x y) := by
  unfold spec_AgesFromThen.f
  refine call (l1In x _ _) ?_
  by_cases h1 : 1 ≤ x ∧ x ≤ 120
  · refine ifp (by simpa using h1) (call (l1In y _ _) ?_)
    by_cases h2 : 1 ≤ y ∧ y ≤ 120
    · refine ifp (by simpa using h2) ?_
      rw [w64 (x + y) (by omega)]
      by_cases h3 : x + y > 120
      · rw [decide_eq_true h3]; exact spec_no p q u v x y fun h => by have := h.2.2.2.2; omega
      · rw [decide_eq_false h3]; exact spec_j p q u v x y h1 h2.1 (by omega)
    · exact ifn (by simpa using h2) (spec_no p q u v x y fun h => h2 ⟨h.2.2.2.1, by have := h.2.2.2.2; omega⟩)
  · exact ifn (by simpa using h1) (spec_no p q u v x y fun h => h1 h.2.2.1)
theorem impl_ (p q u v x y : Int) : Ev (fun k => impl_AgesFromThen.f k p q u v x y) (val p q u v x y) := by
  unfold impl_AgesFromThen.f
  refine call (isRatio p q) ?_
  by_cases h1 : good p q = true
  · refine ifp h1 (call (isRatio u v) ?_)
    by_cases h2 : good u v = true
    · refine ifp h2 (call (between x _ _) ?_)
      by_cases h3 : 1 ≤ x ∧ x ≤ 120
      · refine ifp (by simpa using h3) ?_
        rw [w64 (120 - x) (by omega)]
        refine call (between y _ _) ?_
        by_cases h4 : 1 ≤ y ∧ y ≤ 120 - x
        · rw [decide_eq_true h4]
          have hok : ok p q u v x y := ⟨h1, h2, h3, h4.1, by omega⟩
          refine Ev.step (f := fun k => _) (fun k => by rw [impl_AgesFromThen.j0]) (ifn (by simp) ?_)
          rw [w64 (x + y) (by omega)]
          refine Ev.bind (impl_two p q u v (x + y) h1 h2 (by omega)) ?_
          have b := twoV_bd p q u v (x + y) h1 h2 (by omega)
          have m := mulb (twoV p q u v (x + y)).2.2.1 x 100000000 120 (by omega) (by omega)
          have e := Int.mul_comm (twoV p q u v (x + y)).2.2.1 x
          unfold val
          by_cases h5 : (twoV p q u v (x + y)).2.2.2 = true
          · refine ifp h5 (evEq ?_ (if_pos ⟨hok, h5⟩).symm)
            rw [w64 (_ * x) (by omega), w64 _ (by omega), w64 _ (by omega), e]
            exact now
          · exact ifn h5 (evEq now (if_neg (fun h3 => h5 h3.2)).symm)
        · rw [decide_eq_false h4]; exact impl_no p q u v x y fun h => h4 ⟨h.2.2.2.1, by have := h.2.2.2.2; omega⟩
      · exact ifn (by simpa using h3) (impl_no p q u v x y fun h => h3 h.2.2.1)
    · exact ifn h2 (impl_no p q u v x y fun h => h2 h.2.1)
  · exact ifn h1 (impl_no p q u v x y fun h => h1 h.1)
end AgesFromThen
end Go.Proofs.Ytnbolemfldmohaa.Pure
namespace Go.Proofs.Ytnbolemfldmohaa.Pure
open Go.RowKit Go.Proofs.Ytnbolemfldmohaa.P Go.Proofs.Ytnbolemfldmohaa.Pr Go.Proofs.Ytnbolemfldmohaa.E Go.Proofs.YtnbolemfldmohaaW.PrintWords Go.Proofs.YtnbolemfldmohaaW.PrintMore Go.Proofs.Ytnbolemfldmohaa.Mth
theorem twoV_facts (p q u v y : Int) (h1 : good p q = true) (h2 : good u v = true) (hy : y.natAbs ≤ 120) (V : Int × Int × Int × Bool) (hV : twoV p q u v y = V) :
    (V.1.natAbs ≤ 20000000000 ∧ V.2.1.natAbs ≤ 20000000000 ∧ V.2.2.1.natAbs ≤ 100000000) ∧ (V.2.2.2 = true → 1 ≤ V.2.2.1 ∧ V.1 * q = V.2.1 * p ∧ (V.1 + y * V.2.2.1) * v = (V.2.1 + y * V.2.2.1) * u ∧ 1 ≤ V.1 ∧ 1 ≤ V.2.1 ∧ 1 ≤ V.1 + y * V.2.2.1 ∧ 1 ≤ V.2.1 + y * V.2.2.1 ∧ g (g V.1 V.2.1) V.2.2.1 = 1) := by
  subst hV
  refine ⟨AgesFromThen.twoV_bd p q u v y h1 h2 hy, ?_⟩
  unfold twoV
  split
  · rename_i h
    intro _
    obtain ⟨hD, c1, c2⟩ := h
    have f1 := three_facts (p * ((u - v) * y)) (q * ((u - v) * y)) (v * p - u * q) hD
    have f2 := two_facts p q u v y hD
    dsimp only at f2 ⊢
    generalize three (p * ((u - v) * y)) (q * ((u - v) * y)) (v * p - u * q) = t at *
    have e := Int.mul_comm t.2.2 y
    rw [e] at c2
    exact ⟨f1.1, f2.1, f2.2, by omega, by omega, by omega, by omega, f1.2.2.2⟩
  · intro h
    cases h
theorem two_facts' (p q u v y : Int) (V : Int × Int × Int × Bool) (hV : (if okTwo p q u v y then twoV p q u v y else (0, 0, 0, false)) = V) :
    (V.1.natAbs ≤ 100000000000 ∧ V.2.1.natAbs ≤ 100000000000 ∧ V.2.2.1.natAbs ≤ 100000000) ∧ (V.2.2.2 = true → (y.natAbs ≤ 1000 ∧ p.natAbs ≤ 100 ∧ q.natAbs ≤ 100 ∧ u.natAbs ≤ 100 ∧ v.natAbs ≤ 100) ∧ 1 ≤ V.2.2.1 ∧ V.1 * q = V.2.1 * p ∧ (V.1 + y * V.2.2.1) * v = (V.2.1 + y * V.2.2.1) * u ∧ 1 ≤ V.1 ∧ 1 ≤ V.2.1 ∧ 1 ≤ V.1 + y * V.2.2.1 ∧ 1 ≤ V.2.1 + y * V.2.2.1 ∧ g (g V.1 V.2.1) V.2.2.1 = 1) := by
  by_cases h : okTwo p q u v y
  · rw [if_pos h] at hV
    have f := twoV_facts p q u v y h.1 h.2.1 (by have := h.2.2.1; omega) V hV
    have g1 := (good_iff p q).1 h.1
    have g2 := (good_iff u v).1 h.2.1
    have := h.2.2.1
    exact ⟨⟨by omega, by omega, f.1.2.2⟩, fun h => ⟨by omega, f.2 h⟩⟩
  · rw [if_neg h] at hV
    subst hV
    exact ⟨⟨by decide, by decide, by decide⟩, fun h => by cases h⟩
theorem then_facts (p q u v x y : Int) (V : Int × Int × Int × Bool) (hV : AgesFromThen.val p q u v x y = V) :
    (V.1.natAbs ≤ 100000000000 ∧ V.2.1.natAbs ≤ 100000000000 ∧ V.2.2.1.natAbs ≤ 100000000) ∧ (V.2.2.2 = true → ((x.natAbs ≤ 1000 ∧ y.natAbs ≤ 1000) ∧ p.natAbs ≤ 100 ∧ q.natAbs ≤ 100 ∧ u.natAbs ≤ 100 ∧ v.natAbs ≤ 100) ∧ 1 ≤ V.2.2.1 ∧ (V.1 - x * V.2.2.1) * q = (V.2.1 - x * V.2.2.1) * p ∧ (V.1 + y * V.2.2.1) * v = (V.2.1 + y * V.2.2.1) * u ∧ 1 ≤ V.1 - x * V.2.2.1 ∧ 1 ≤ V.2.1 - x * V.2.2.1 ∧ 0 ≤ V.1 ∧ 0 ≤ V.2.1 ∧ g (g V.1 V.2.1) V.2.2.1 = 1) := by
  unfold AgesFromThen.val at hV
  split at hV
  · rename_i h
    obtain ⟨hok, ht⟩ := h
    have f := twoV_facts p q u v (x + y) hok.1 hok.2.1 (by have := hok.2.2; omega) _ rfl
    have g1 := (good_iff p q).1 hok.1
    have g2 := (good_iff u v).1 hok.2.1
    have hxy := hok.2.2
    generalize twoV p q u v (x + y) = t at *
    obtain ⟨k1, k2, k3, k4, k5, k6, k7, k8⟩ := f.2 ht
    subst hV
    dsimp only
    have m := mulb x t.2.2.1 120 100000000 (by omega) f.1.2.2
    have m0 : 0 ≤ x * t.2.2.1 := Int.mul_nonneg (by omega) (by omega)
    refine ⟨⟨by omega, by omega, f.1.2.2⟩, fun _ => ⟨⟨by omega, by omega, by omega, by omega, by omega⟩, k1, ?_, ?_, by omega, by omega, by omega, by omega, ?_⟩⟩
    · rw [Int.add_sub_cancel, Int.add_sub_cancel]; exact k2
    · have e1 : t.1 + x * t.2.2.1 + y * t.2.2.1 = t.1 + (x + y) * t.2.2.1 := by rw [Int.add_mul, Int.add_assoc]
      have e2 : t.2.1 + x * t.2.2.1 + y * t.2.2.1 = t.2.1 + (x + y) * t.2.2.1 := by rw [Int.add_mul, Int.add_assoc]
      rw [e1, e2]; exact k3
    · rw [g_shift]; exact k8
  · subst hV
    exact ⟨⟨by decide, by decide, by decide⟩, fun h => by cases h⟩
theorem bneT (x : Int × Int × Int × Bool) : ¬ ((x.2.2.2 != x.2.2.2) = true) := by simp
theorem j4_ok (l1 : List Int) (hl : Bytes l1) : Ev (fun k => laws_FnRatiosFound.j4 k l1 false) true := by
  obtain ⟨p, q, u, v, y, eT⟩ := drawT l1 hl
  obtain ⟨p2, q2, u2, v2, x2, y2, eH⟩ := drawH l1 hl
  obtain ⟨r1, r2, eR⟩ := drawR l1 hl
  have a1 := AgesFromTwo.impl_ p q u v y
  have a2 := spec_Two p q u v y
  have b1 := AgesFromThen.impl_ p2 q2 u2 v2 x2 y2
  have b2 := AgesFromThen.spec_ p2 q2 u2 v2 x2 y2
  have f1 := two_facts' p q u v y _ rfl
  have f2 := then_facts p2 q2 u2 v2 x2 y2 _ rfl
  generalize (if okTwo p q u v y then twoV p q u v y else ((0 : Int), (0 : Int), (0 : Int), false)) = V at a1 a2 f1
  generalize AgesFromThen.val p2 q2 u2 v2 x2 y2 = W at b1 b2 f2
  have t1 := turn_f r1 r2
  have t2 : spec_TurnRatio.f r1 r2 = some (if good r1 r2 = true then (r2, r1, true) else (0, 0, false)) := by
    simp only [spec_TurnRatio.f, raGood, Option.bind_some]
    cases good r1 r2 <;> simp
  have t3 := isRatio r1 r2
  have t4 : spec_IsRatio.f r1 r2 = some (good r1 r2) := by simp only [spec_IsRatio.f, raGood, Option.bind_some]
  have c7 := j7_ok r1 r2
  have hb : (if good r1 r2 = true then (r2, r1, true) else ((0 : Int), (0 : Int), false)).2.2 = good r1 r2 := by cases good r1 r2 <;> rfl
  have c6 := j6_ok x2 y2 W.1 W.2.1 W.2.2.1 W.2.2.2 (good r1 r2) p2 q2 u2 v2 r1 r2 _ _ (fun h => (f2.2 h).1) f2.1 (fun h => (f2.2 h).2) c7
  have c5 := j5_ok y V.1 V.2.1 V.2.2.1 V.2.2.2 x2 y2 W.1 W.2.1 W.2.2.1 W.2.2.2 (good r1 r2) p q u v p2 q2 u2 v2 r1 r2 _ _ (fun h => (f1.2 h).1) f1.1 (fun h => (f1.2 h).2) c6
  generalize hR : (if good r1 r2 = true then (r2, r1, true) else ((0 : Int), (0 : Int), false)) = R at *
  refine Ev.step (f := fun k => _) (fun k => by rw [laws_FnRatiosFound.j4]) (ifn (by simp) ?_)
  refine call eT (Ev.bind a1 (Ev.bind a2 (call eH (Ev.bind b1 (Ev.bind b2 (call eR (call t1 (call t2 ?_))))))))
  refine ifn (bneT V) (ifp rfl (ifp rfl (ifp rfl (ifn (bneT W) (ifp rfl (ifp rfl (ifp rfl (ifn (by simp) (ifn (by simp) (call t3 (ifn (by rw [hb]; simp) (call t3 (call t4 ?_)))))))))))))
  rw [hb, show (good r1 r2 != good r1 r2) = false by simp]
  exact c5
theorem sum_f (s p q : Int) (V : Int × Int × Int × Bool) (hV : AgesFromSum.val s p q = V) :
    (V.1.natAbs ≤ 100000000000 ∧ V.2.1.natAbs ≤ 100000000000 ∧ V.2.2.1.natAbs ≤ 100000000) ∧ (V.2.2.2 = true → (s.natAbs ≤ 1000 ∧ p.natAbs ≤ 100 ∧ q.natAbs ≤ 100) ∧ 1 ≤ V.2.2.1 ∧ V.1 + V.2.1 = s * V.2.2.1 ∧ V.1 * q = V.2.1 * p ∧ 1 ≤ V.1 ∧ 1 ≤ V.2.1 ∧ g (g V.1 V.2.1) V.2.2.1 = 1) := by
  unfold AgesFromSum.val at hV
  split at hV
  · rename_i h
    have g1 := (good_iff p q).1 h.2
    have m2 := mulb s p 1000 100 (by omega) (by omega)
    have m3 := mulb s q 1000 100 (by omega) (by omega)
    have b := three_bd (s * p) (s * q) (p + q) (by omega) (by omega) (by omega) (by omega)
    have f1 := three_facts (s * p) (s * q) (p + q) (by omega)
    have f2 := sum_facts s p q (by omega) (by omega) (by omega)
    dsimp only at f2
    generalize three (s * p) (s * q) (p + q) = t at *
    subst hV
    exact ⟨⟨by dsimp only; omega, by dsimp only; omega, by dsimp only; omega⟩, fun _ => ⟨by omega, f1.1, f2.1, f2.2.1, f2.2.2.1, f2.2.2.2, f1.2.2.2⟩⟩
  · subst hV
    exact ⟨⟨by decide, by decide, by decide⟩, fun h => by cases h⟩
theorem gap_f (s p q : Int) (V : Int × Int × Int × Bool) (hV : AgesFromGap.val s p q = V) :
    (V.1.natAbs ≤ 100000000000 ∧ V.2.1.natAbs ≤ 100000000000 ∧ V.2.2.1.natAbs ≤ 100000000) ∧ (V.2.2.2 = true → (s.natAbs ≤ 1000 ∧ p.natAbs ≤ 100 ∧ q.natAbs ≤ 100) ∧ 1 ≤ V.2.2.1 ∧ V.1 - V.2.1 = s * V.2.2.1 ∧ V.1 * q = V.2.1 * p ∧ 1 ≤ V.1 ∧ 1 ≤ V.2.1 ∧ g (g V.1 V.2.1) V.2.2.1 = 1) := by
  unfold AgesFromGap.val at hV
  split at hV
  · rename_i h
    have g1 := (good_iff p q).1 h.2.1
    have h1 := h.1
    have m2 := mulb s p 120 100 (by omega) (by omega)
    have m3 := mulb s q 120 100 (by omega) (by omega)
    have hD : p - q ≠ 0 := by intro e; have := h.2.2; rw [e] at this; simp at this
    have b := three_bd (s * p) (s * q) (p - q) (by omega) (by omega) (by omega) hD
    have f1 := three_facts (s * p) (s * q) (p - q) hD
    have f2 := gap_facts s p q (by omega) (by omega) h.2.2
    dsimp only at f2
    generalize three (s * p) (s * q) (p - q) = t at *
    subst hV
    exact ⟨⟨by dsimp only; omega, by dsimp only; omega, by dsimp only; omega⟩, fun _ => ⟨by omega, f1.1, f2.1, f2.2.1, f2.2.2.1, f2.2.2.2, f1.2.2.2⟩⟩
  · subst hV
    exact ⟨⟨by decide, by decide, by decide⟩, fun h => by cases h⟩
theorem ev_uniq {α : Type} {f : Nat → Option α} {r s : α} (h1 : Ev f r) (h2 : Ev f s) : r = s := by
  obtain ⟨K1, h1⟩ := h1
  obtain ⟨K2, h2⟩ := h2
  exact Option.some.inj ((h1 (K1 + K2) (by omega)).symm.trans (h2 (K1 + K2) (by omega)))
theorem years_f (a b p q : Int) (V : Int × Int × Bool) (hV : YearsUntilRatio.val a b p q = V) :
    (V.2.2 = true → (a.natAbs ≤ 120 ∧ b.natAbs ≤ 120 ∧ p.natAbs ≤ 100 ∧ q.natAbs ≤ 100) ∧ V.1.natAbs ≤ 1000000 ∧ (1 ≤ V.2.1 ∧ V.2.1 ≤ 10000)) ∧
    (V.2.2 = true → (good p q = true ∧ p ≠ q ∧ 0 < min a b * V.2.1 + V.1) ∧ g V.1 V.2.1 = 1 ∧ q * (a * V.2.1 + V.1) = p * (b * V.2.1 + V.1) ∧ 0 < a * V.2.1 + V.1 ∧ 0 < b * V.2.1 + V.1) := by
  unfold YearsUntilRatio.val at hV
  split at hV
  · rename_i h
    obtain ⟨ha, hb, hg, hpq, hpos⟩ := h
    have g1 := (good_iff p q).1 hg
    have hD : p - q ≠ 0 := by omega
    have m1 := mulb q a 100 120 (by omega) (by omega)
    have m2 := mulb p b 100 120 (by omega) (by omega)
    have a1 := lowN_abs (q * a - p * b) (p - q) hD
    have a2 := lowD_bd (q * a - p * b) (p - q) hD (by omega)
    have c := low_cross (q * a - p * b) (p - q) hD
    have k := low_coprime (q * a - p * b) (p - q) hD
    generalize lowN (q * a - p * b) (p - q) = n at *
    generalize lowD (q * a - p * b) (p - q) = d at *
    subst hV
    dsimp only
    refine ⟨fun _ => ⟨by omega, by omega, a2⟩, fun _ => ⟨⟨hg, hpq, hpos⟩, k, by grind, ?_, ?_⟩⟩
    · have := Int.mul_le_mul_of_nonneg_right (show min a b ≤ a by omega) (show 0 ≤ d by omega)
      omega
    · have := Int.mul_le_mul_of_nonneg_right (show min a b ≤ b by omega) (show 0 ≤ d by omega)
      omega
  · subst hV
    exact ⟨(fun h => by cases h), (fun h => by cases h)⟩
theorem big_f (l0 l1 : List Int) : ∃ t, laws_big.f l0 l1 = some t := by
  unfold laws_big.f
  split
  · exact ⟨_, rfl⟩
  · exact ⟨_, rfl⟩
theorem impl_near_one (a b p q : Int) (v : Int × Bool) (h : Ev (fun k => impl_NearestYear.f k a b p q) v) (_hg : good p q = true) (h1 : v.2 = true) : two a b = true := by
  cases h2 : two a b with
  | true => rfl
  | false =>
    have e : Ev (fun k => impl_NearestYear.f k a b p q) (0, false) := by
      unfold impl_NearestYear.f
      exact call (areUnlike a b) (ifn (by rw [h2]; simp) (NearestYear.impl_no a b p q))
    have := ev_uniq h e
    subst this
    cases h1
theorem FnRatiosFound : laws_FnRatiosFound.Pure := by
  intro l0 l1 _ _ w0 _ _ w1
  have hl0 : Bytes l0 := fun x hx => by have := w0 x hx; simp [Lit.wf, IntKind.min, IntKind.max, IntKind.signed, IntKind.bits] at this; omega
  have hl1 : Bytes l1 := fun x hx => by have := w1 x hx; simp [Lit.wf, IntKind.min, IntKind.max, IntKind.signed, IntKind.bits] at this; omega
  refine Ev.rounds ?_
  unfold laws_FnRatiosFound.f
  obtain ⟨t, eB⟩ := big_f l0 l1
  refine call eB ?_
  by_cases ht : t = true
  · exact ifp ht now
  · refine ifn ht ?_
    obtain ⟨a, b, p, q, eY⟩ := drawY l0 hl0
    obtain ⟨s, p1, q1, eS⟩ := drawS l0 hl0
    obtain ⟨gp, p2, q2, eG⟩ := drawG l0 hl0
    have y1 := YearsUntilRatio.impl_ a b p q
    have y2 := YearsUntilRatio.spec_ a b p q
    obtain ⟨N, n2, n1⟩ := NearestYear.both a b p q
    have s1 := AgesFromSum.impl_ s p1 q1
    have s2 := AgesFromSum.spec_ s p1 q1
    have g1 := AgesFromGap.impl_ gp p2 q2
    have g2 := AgesFromGap.spec_ gp p2 q2
    have fy := years_f a b p q _ rfl
    have fs := sum_f s p1 q1 _ rfl
    have fg := gap_f gp p2 q2 _ rfl
    generalize YearsUntilRatio.val a b p q = Y at y1 y2 fy
    generalize AgesFromSum.val s p1 q1 = S at s1 s2 fs
    generalize AgesFromGap.val gp p2 q2 = G at g1 g2 fg
    have c3 := j3_ok l1 gp G.1 G.2.1 G.2.2.1 G.2.2.2 p2 q2 (fun h => (fg.2 h).1) fg.1 (fun h => (fg.2 h).2) (j4_ok l1 hl1)
    have c2 := j2_ok l1 s S.1 S.2.1 S.2.2.1 S.2.2.2 gp G.1 G.2.1 G.2.2.1 G.2.2.2 p1 q1 p2 q2 (fun h => (fs.2 h).1) fs.1 (fun h => (fs.2 h).2) c3
    have hnear : Y.2.2 = true → Y.2.1 = 1 → N.2 = true → Y.1 ≤ 120 → N.1 = Y.1 := by
      intro h1 h2 h3 h4
      obtain ⟨⟨k1, k2, k3⟩, _, k5, _⟩ := fy.2 h1
      rw [h2, Int.mul_one] at k3
      rw [h2, Int.mul_one, Int.mul_one] at k5
      have e := NearestYear.exact_ a b p q Y.1 (impl_near_one a b p q N n1 k1 h3) k1 k2 (by rw [Int.mul_comm _ q]; exact k5) (by omega) h4
      have := ev_uniq n1 e
      rw [this]
    have c0 := j0_ok l1 a b Y.1 Y.2.1 Y.2.2 N.1 N.2 s S.1 S.2.1 S.2.2.1 S.2.2.2 gp G.1 G.2.1 G.2.2.1 G.2.2.2 p q p1 q1 p2 q2 fy.1 (fun h => ⟨(fy.2 h).2.1, (fy.2 h).2.2.1, (fy.2 h).2.2.2.1, (fy.2 h).2.2.2.2, fun h1 h2 h3 => hnear h h1 h2 h3⟩) c2
    refine call eY (Ev.bind y1 (Ev.bind y2 (Ev.bind n1 (Ev.bind n2 (call eS (Ev.bind s1 (Ev.bind s2 (call eG (Ev.bind g1 (Ev.bind g2 ?_))))))))))
    refine ifn (by simp) (ifp rfl (ifp rfl (ifn (by simp) (ifp rfl (ifn (bneT S) (ifp rfl (ifp rfl (ifp rfl (ifn (bneT G) (ifp rfl (ifp rfl ?_)))))))))))
    rw [show (G.2.2.1 != G.2.2.1) = false by simp]
    exact c0
end Go.Proofs.Ytnbolemfldmohaa.Pure
