/- The program's LeastChain tells what the reference's tells, for all chains, and leaves what it is handed. No condition. -/
import Derived.Test.YtnbolemfldmohaaPc9
import Derived.Test.YtnbolemfldmohaaPc2
import Derived.Test.YtnbolemfldmohaaPc8
import Derived.Test.YtnbolemfldmohaaPc1
import Derived.Test.YtnbolemfldmohaaPcHimplqleastChain
import Derived.Test.YtnbolemfldmohaaPcHimplqareRatios
import Derived.Test.YtnbolemfldmohaaPc0
import Derived.Test.YtnbolemfldmohaaEv
import Derived.Test.YtnbolemfldmohaaPc5
import Derived.Test.YtnbolemfldmohaaChB
namespace Go.Proofs.Ytnbolemfldmohaa.Pr
open Go.RowKit Go.Proofs.Ytnbolemfldmohaa.P Go.Proofs.YtnbolemfldmohaaW.PrintWords Go.Proofs.Ytnbolemfldmohaa.E
abbrev Rt := S43
abbrev LR := S71
abbrev rdR (l : List Rt) (i : Int) : Rt := rd_T43 l i
theorem rdR_get (l : List Rt) (i : Nat) (h : i < l.length) : rd_T43 l (i : Int) = l[i] := by simp [rd_T43, List.getD_eq_getElem?_getD, List.getElem?_eq_getElem h]
theorem rdL_get (l : List LR) (i : Nat) (h : i < l.length) : rd_T71 l (i : Int) = l[i] := by simp [rd_T71, List.getD_eq_getElem?_getD, List.getElem?_eq_getElem h]
def conv1 (x : LR) : Rt := ⟨x.f0, x.f1⟩
def conv (l : List LR) : List Rt := l.map conv1
theorem conv_length (l : List LR) : (conv l).length = l.length := by simp [conv]
theorem szRatioS (l : List LR) (h : l.length ≤ 140737488351232) : laws_szRatioS.f l 1048576 = some (if l.length ≤ 1048576 then 1048576 - (l.length : Int) else -1) := by
  unfold laws_szRatioS.f
  rw [w64 _ (by omega)]
  by_cases h1 : l.length ≤ 1048576
  · rw [if_neg (by omega), if_pos h1]
  · rw [if_pos (by omega), if_neg h1]
theorem toRatioS_l (l : List LR) (hl : l.length ≤ 1099511627776) (n : Nat) : ∀ i : Nat, i ≤ l.length → l.length - i ≤ n →
    Ev (fun k => laws_toRatioS.l0 k l (conv (l.take i) ++ List.replicate (l.length - i) z43) (i : Int)) (conv l) := by
  have stop : Ev (fun k => laws_toRatioS.l0 k l (conv (l.take l.length) ++ List.replicate (l.length - l.length) z43) (l.length : Int)) (conv l) := by
    refine Ev.step (f := fun k => _) (fun k => by rw [laws_toRatioS.l0]) (ifn (by omega) (evEq now ?_))
    simp
  induction n with
  | zero =>
    intro i h1 h2
    obtain rfl : i = l.length := by omega
    exact stop
  | succ n ih =>
    intro i h1 h2
    by_cases hi : i < l.length
    · have hlen : (conv (l.take i) ++ List.replicate (l.length - i) z43).length = l.length := by simp [conv]; omega
      have hset : (conv (l.take i) ++ List.replicate (l.length - i) z43).set i (conv1 l[i]) = conv (l.take (i + 1)) ++ List.replicate (l.length - (i + 1)) z43 := by
        have hc : (conv (l.take i)).length = i := by simp [conv]; omega
        rw [List.set_append_right _ _ (by omega), hc, Nat.sub_self, show l.length - i = (l.length - (i + 1)) + 1 by omega, List.replicate_succ, List.set_cons_zero, List.take_succ_eq_append_getElem hi]
        simp only [conv, List.map_append, List.map_cons, List.map_nil, List.append_assoc, List.cons_append, List.nil_append]
      refine Ev.step (f := fun k => _) (fun k => by rw [laws_toRatioS.l0]) (ifp (by omega) (ifp (by omega) ?_))
      refine call (b := (l[i].f0, l[i].f1)) (by rw [rdL_get l i hi]; rfl) ?_
      refine ifp (by omega) ?_
      rw [w64 _ (by omega), Int.toNat_natCast]
      have := ih (i + 1) (by omega) (by omega)
      rw [← hset] at this
      exact this
    · obtain rfl : i = l.length := by omega
      exact stop
theorem toRatioS (l : List LR) (hl : l.length ≤ 1099511627776) : Ev (fun k => laws_toRatioS.f k l) (conv l) := by
  unfold laws_toRatioS.f
  refine ifp (by omega) (ifp (by omega) ?_)
  have := toRatioS_l l hl _ 0 (by omega) (Nat.le_refl _)
  simpa [conv] using this
theorem eqRatio (a b : Int) : laws_eqRatio.f a b a b = some true := by simp [laws_eqRatio.f]
theorem eqRatioS_l (l : List Rt) (hl : l.length ≤ 1099511627776) (n : Nat) : ∀ i : Nat, i ≤ l.length → l.length - i ≤ n → Ev (fun k => laws_eqRatioS.l0 k l l (i : Int)) true := by
  induction n with
  | zero =>
    intro i h1 h2
    exact Ev.step (f := fun k => _) (fun k => by rw [laws_eqRatioS.l0]) (ifn (by omega) now)
  | succ n ih =>
    intro i h1 h2
    by_cases hi : i < l.length
    · refine Ev.step (f := fun k => _) (fun k => by rw [laws_eqRatioS.l0]) (ifp (by omega) (ifp (by omega) (ifp (by omega) (call (eqRatio _ _) (ifp rfl ?_)))))
      rw [w64 _ (by omega)]
      exact ih (i + 1) (by omega) (by omega)
    · exact Ev.step (f := fun k => _) (fun k => by rw [laws_eqRatioS.l0]) (ifn (by omega) now)
theorem eqRatioS (l : List Rt) (hl : l.length ≤ 1099511627776) : Ev (fun k => laws_eqRatioS.f k l l) true := by
  unfold laws_eqRatioS.f
  exact ifp rfl (eqRatioS_l l hl _ 0 (by omega) (Nat.le_refl _))
end Go.Proofs.Ytnbolemfldmohaa.Pr
namespace Go.Proofs.Ytnbolemfldmohaa.Pr
open Go.RowKit Go.Proofs.Ytnbolemfldmohaa.P Go.Proofs.YtnbolemfldmohaaW.PrintWords
theorem l1In (a lo hi : Int) : spec_l1In.f a lo hi = some (decide (lo ≤ a ∧ a ≤ hi)) := by
  unfold spec_l1In.f
  by_cases h : a ≥ lo
  · rw [if_pos h]; congr 1; simp; omega
  · rw [if_neg h]; congr 1; simp; omega
theorem between (a lo hi : Int) : impl_between.f a lo hi = some (decide (lo ≤ a ∧ a ≤ hi)) := l1In a lo hi
def good (a b : Int) : Bool := decide ((1 ≤ a ∧ a ≤ 100) ∧ 1 ≤ b ∧ b ≤ 100)
theorem isRatio (a b : Int) : impl_IsRatio.f a b = some (good a b) := by
  unfold impl_IsRatio.f good
  simp only [between, Option.bind_some]
  by_cases h : 1 ≤ a ∧ a ≤ 100 <;> simp [h]
theorem raGood (a b : Int) : spec_raGood.f a b = some (good a b) := isRatio a b
theorem toRatio (a b : Int) : laws_toRatio.f a b = some (a, b) := rfl
theorem good_iff (a b : Int) : good a b = true ↔ 1 ≤ a ∧ a ≤ 100 ∧ 1 ≤ b ∧ b ≤ 100 := by unfold good; simp; omega
end Go.Proofs.Ytnbolemfldmohaa.Pr
namespace Go.Proofs.Ytnbolemfldmohaa.Pr
open Go.RowKit Go.Proofs.Ytnbolemfldmohaa.P Go.Proofs.YtnbolemfldmohaaW.PrintWords Go.Proofs.Ytnbolemfldmohaa.E
theorem one_iff (x : Rt) : impl_areRatios.one x = true ↔ 1 ≤ x.f0 ∧ x.f0 ≤ 100 ∧ 1 ≤ x.f1 ∧ x.f1 ≤ 100 := by unfold impl_areRatios.one; simp; omega
theorem one_good (x : Rt) : impl_areRatios.one x = good x.f0 x.f1 := by rw [Bool.eq_iff_iff, one_iff, good_iff]
/-- Is it a chain of ratios? -/
def chain (l : List Rt) : Bool := decide (1 ≤ l.length ∧ l.length ≤ 6) && l.all impl_areRatios.one
theorem chain_iff (l : List Rt) : chain l = true ↔ (1 ≤ l.length ∧ l.length ≤ 6) ∧ ∀ x ∈ l, 1 ≤ x.f0 ∧ x.f0 ≤ 100 ∧ 1 ≤ x.f1 ∧ x.f1 ≤ 100 := by
  unfold chain
  rw [Bool.and_eq_true, decide_eq_true_iff, List.all_eq_true]
  simp only [one_iff]
theorem areRatios (l : List Rt) : impl_areRatios.f l = some (chain l) := rfl
theorem raChain_l (l : List Rt) (hl : l.length ≤ 1073741824) (n : Nat) : ∀ i : Nat, i ≤ l.length → l.length - i ≤ n → Ev (fun k => spec_raChain.l0 k l (l.length : Int) (i : Int)) ((l.drop i).all impl_areRatios.one) := by
  have stop : Ev (fun k => spec_raChain.l0 k l (l.length : Int) (l.length : Int)) ((l.drop l.length).all impl_areRatios.one) := by
    refine Ev.step (f := fun k => _) (fun k => by rw [spec_raChain.l0]) (ifn (by omega) (evEq now ?_))
    simp
  induction n with
  | zero =>
    intro i h1 h2
    obtain rfl : i = l.length := by omega
    exact stop
  | succ n ih =>
    intro i h1 h2
    by_cases hi : i < l.length
    · refine Ev.step (f := fun k => _) (fun k => by rw [spec_raChain.l0]) (ifp (by omega) (ifp (by omega) (ifp (by omega) ?_)))
      rw [rdR_get l i hi, w64 _ (by omega), List.drop_eq_getElem_cons hi, List.all_cons, one_good]
      refine call (raGood _ _) ?_
      cases h : good l[i].f0 l[i].f1 with
      | true => exact ifp rfl (evEq (ih (i + 1) (by omega) (by omega)) (by simp))
      | false => exact ifn (by simp) (evEq now (by simp))
    · obtain rfl : i = l.length := by omega
      exact stop
theorem raChain (l : List Rt) (hl : l.length ≤ 1073741824) : Ev (fun k => spec_raChain.f k l) (chain l) := by
  unfold spec_raChain.f chain
  refine call (l1In _ _ _) ?_
  by_cases h : 1 ≤ l.length ∧ l.length ≤ 6
  · refine ifp (by simp; omega) (evEq (raChain_l l hl _ 0 (by omega) (Nat.le_refl _)) ?_)
    rw [decide_eq_true h]; simp
  · refine ifn (by simp; omega) (evEq now ?_)
    rw [decide_eq_false h]; simp
end Go.Proofs.Ytnbolemfldmohaa.Pr
namespace Go.Proofs.Ytnbolemfldmohaa.Pr
open Go.RowKit Go.Proofs.Ytnbolemfldmohaa.P Go.Proofs.YtnbolemfldmohaaW.PrintWords Go.Proofs.Ytnbolemfldmohaa.E
def marks (n : Nat) (m : Int) : List Int := (List.range n).map fun i : Nat => m + (i : Int)
theorem marks_length (n : Nat) (m : Int) : (marks n m).length = n := by simp [marks]
theorem marks_get (n : Nat) (m : Int) (i : Nat) (h : i < n) : (marks n m)[i]'(by rw [marks_length]; exact h) = m + i := by simp [marks]
theorem rd_get (l : List Int) (i : Nat) (h : i < l.length) : rd l (i : Int) = l[i] := by simp [rd, List.getD_eq_getElem?_getD, List.getElem?_eq_getElem h]
theorem eqIntS_l (l : List Int) (hl : l.length ≤ 1099511627776) (n : Nat) : ∀ i : Nat, i ≤ l.length → l.length - i ≤ n → Ev (fun k => laws_eqIntS.l0 k l l (i : Int)) true := by
  induction n with
  | zero =>
    intro i h1 h2
    exact Ev.step (f := fun k => _) (fun k => by rw [laws_eqIntS.l0]) (ifn (by omega) now)
  | succ n ih =>
    intro i h1 h2
    by_cases hi : i < l.length
    · refine Ev.step (f := fun k => _) (fun k => by rw [laws_eqIntS.l0]) (ifp (by omega) (ifp (by omega) (ifp (by omega) (ifp rfl ?_))))
      rw [w64 _ (by omega)]
      exact ih (i + 1) (by omega) (by omega)
    · exact Ev.step (f := fun k => _) (fun k => by rw [laws_eqIntS.l0]) (ifn (by omega) now)
theorem eqIntS (l : List Int) (hl : l.length ≤ 1099511627776) : Ev (fun k => laws_eqIntS.f k l l) true := by
  unfold laws_eqIntS.f
  exact ifp rfl (eqIntS_l l hl _ 0 (by omega) (Nat.le_refl _))
theorem set_mid (l : List Int) (m : Int) (i : Nat) (h : i < l.length) : (marks i m ++ l.drop i).set i (m + i) = marks (i + 1) m ++ l.drop (i + 1) := by
  rw [List.set_append_right _ _ (by rw [marks_length]; exact Nat.le_refl _), marks_length, Nat.sub_self, List.drop_eq_getElem_cons h, List.set_cons_zero]
  simp [marks, List.range_succ]
theorem markIntS_l (l : List Int) (hl : l.length ≤ 1099511627776) (m : Int) (hm : m.natAbs ≤ 4611686018427387904) (n : Nat) : ∀ i : Nat, i ≤ l.length → l.length - i ≤ n →
    Ev (fun k => laws_markIntS.l0 k (marks i m ++ l.drop i) (m + i) (i : Int)) (m + l.length, marks l.length m) := by
  have hlen : ∀ i, i ≤ l.length → (marks i m ++ l.drop i).length = l.length := fun i h => by rw [List.length_append, marks_length, List.length_drop]; omega
  have stop : Ev (fun k => laws_markIntS.l0 k (marks l.length m ++ l.drop l.length) (m + l.length) (l.length : Int)) (m + l.length, marks l.length m) := by
    have h := hlen l.length (Nat.le_refl _)
    refine Ev.step (f := fun k => _) (fun k => by rw [laws_markIntS.l0]) (ifn (by omega) (evEq now ?_))
    rw [List.drop_length, List.append_nil]
  induction n with
  | zero =>
    intro i h1 h2
    obtain rfl : i = l.length := by omega
    exact stop
  | succ n ih =>
    intro i h1 h2
    by_cases hi : i < l.length
    · have h := hlen i h1
      refine Ev.step (f := fun k => _) (fun k => by rw [laws_markIntS.l0]) (ifp (by omega) (ifp (by omega) ?_))
      rw [w64 (m + i + 1) (by omega), w64 (i + 1) (by omega), Int.toNat_natCast, set_mid l m i hi]
      have := ih (i + 1) (by omega) (by omega)
      rw [show ((i + 1 : Nat) : Int) = (i : Int) + 1 from rfl, ← Int.add_assoc] at this
      exact this
    · obtain rfl : i = l.length := by omega
      exact stop
theorem markIntS (l : List Int) (hl : l.length ≤ 1099511627776) (m : Int) (hm : m.natAbs ≤ 4611686018427387904) : Ev (fun k => laws_markIntS.f k l m) (m + l.length, marks l.length m) := by
  have := markIntS_l l hl m hm _ 0 (by omega) (Nat.le_refl _)
  simpa [marks, laws_markIntS.f] using this
theorem heldIntS_l (N : Nat) (hl : N ≤ 1099511627776) (m : Int) (hm : m.natAbs ≤ 4611686018427387904) (n : Nat) : ∀ i : Nat, i ≤ N → N - i ≤ n → Ev (fun k => laws_heldIntS.l0 k (marks N m) (m + i) (i : Int)) (m + N) := by
  have stop : Ev (fun k => laws_heldIntS.l0 k (marks N m) (m + N) (N : Int)) (m + N) :=
    Ev.step (f := fun k => _) (fun k => by rw [laws_heldIntS.l0]) (ifn (by rw [marks_length]; omega) now)
  induction n with
  | zero =>
    intro i h1 h2
    obtain rfl : i = N := by omega
    exact stop
  | succ n ih =>
    intro i h1 h2
    by_cases hi : i < N
    · refine Ev.step (f := fun k => _) (fun k => by rw [laws_heldIntS.l0]) (ifp (by rw [marks_length]; omega) (ifp (by omega) (ifp ?_ ?_)))
      · rw [rd_get _ _ (by rw [marks_length]; exact hi), marks_get N m i hi]
      · rw [w64 (m + i + 1) (by omega), w64 (i + 1) (by omega)]
        have := ih (i + 1) (by omega) (by omega)
        rw [show ((i + 1 : Nat) : Int) = (i : Int) + 1 from rfl, ← Int.add_assoc] at this
        exact this
    · obtain rfl : i = N := by omega
      exact stop
theorem heldIntS (N : Nat) (hl : N ≤ 1099511627776) (m : Int) (hm : m.natAbs ≤ 4611686018427387904) : Ev (fun k => laws_heldIntS.f k (marks N m) m) (m + N) := by
  have := heldIntS_l N hl m hm _ 0 (by omega) (Nat.le_refl _)
  simpa [laws_heldIntS.f] using this
end Go.Proofs.Ytnbolemfldmohaa.Pr
namespace Go.Proofs.Ytnbolemfldmohaa.Pr
open Go.RowKit Go.Proofs.Ytnbolemfldmohaa.P Go.Proofs.YtnbolemfldmohaaW.PrintWords Go.Proofs.YtnbolemfldmohaaW.PrintMore
open Go.Proofs.Ytnbolemfldmohaa.E Go.Proofs.Ytnbolemfldmohaa.Mth Go.Proofs.Ytnbolemfldmohaa.Ch
theorem natAbs_tmod_lt (a b : Int) (h : b ≠ 0) : (a.tmod b).natAbs < b.natAbs := by
  rw [Int.natAbs_tmod]; exact Nat.mod_lt _ (by omega)
theorem wdiv (a b : Int) (h : b ∣ a) (ha : a.natAbs ≤ 4611686018427387904) : wrap64 (a.tdiv b) = a / b := by
  have := tdivb a b
  rw [w64 _ (by omega), tdiv_of_dvd a b h]
theorem abs_ (x : Int) (h : x.natAbs ≤ 9223372036854775807) : spec_l1Abs.f x = some (x.natAbs : Int) := by
  unfold spec_l1Abs.f spec_l1Most.f
  rw [w64 _ (by omega)]
  by_cases h : x > -x
  · rw [if_pos h]; simp only [Option.bind_some]; congr 1; omega
  · rw [if_neg h]; simp only [Option.bind_some]; congr 1; omega
theorem raLow_l (n d : Int) (hn : n.natAbs ≤ 4611686018427387904) (hd : d.natAbs ≤ 4611686018427387904) (m : Nat) : ∀ a b : Int, 0 ≤ a → 0 ≤ b → b.natAbs ≤ m → g a b ≠ 0 → g a b ∣ n → g a b ∣ d → Ev (fun k => spec_raLow.l0 k n d a b) (n / g a b, d / g a b) := by
  induction m with
  | zero =>
    intro a b ha hb0 hb hg h1 h2
    have h0 : b = 0 := by omega
    refine Ev.step (f := fun _ => _) (fun k => by rw [spec_raLow.l0]) (ifn (by omega) ?_)
    rw [h0, g_zero] at hg h1 h2 ⊢
    refine ifn (by omega) ?_
    rw [show ((a.natAbs : Nat) : Int) = a from by omega] at h1 h2 ⊢
    rw [wdiv n _ h1 hn, wdiv d _ h2 hd]
    exact now
  | succ m ih =>
    intro a b ha hb0 hb hg h1 h2
    refine Ev.step (f := fun k => _) (fun k => by rw [spec_raLow.l0]) ?_
    by_cases h0 : b = 0
    · refine ifn (by omega) ?_
      rw [h0, g_zero] at hg h1 h2 ⊢
      refine ifn (by omega) ?_
      rw [show ((a.natAbs : Nat) : Int) = a from by omega] at h1 h2 ⊢
      rw [wdiv n _ h1 hn, wdiv d _ h2 hd]
      exact now
    · refine ifp (by omega) (ifn h0 ?_)
      rw [← g_step a b h0] at hg h1 h2 ⊢
      have := natAbs_tmod_lt a b h0
      exact ih b (a.tmod b) hb0 (Int.tmod_nonneg _ ha) (by omega) hg h1 h2
theorem g_abs (n d : Int) : g (n.natAbs : Int) d = g n d := by unfold g Int.gcd; rw [Int.natAbs_natCast]
theorem raLow (n d : Int) (hn : n.natAbs ≤ 4611686018427387904) (hd : d.natAbs ≤ 4611686018427387904) (h1 : d ≠ 0) : Ev (fun k => spec_raLow.f k n d) (lowN n d, lowD n d) := by
  have key : ∀ n d : Int, n.natAbs ≤ 4611686018427387904 → d.natAbs ≤ 4611686018427387904 → 1 ≤ d → Ev (fun k => spec_raLow.j0 k n d) (n / g n d, d / g n d) := by
    intro n d hn hd h1
    refine Ev.step (f := fun k => _) (fun k => by rw [spec_raLow.j0]) (call (abs_ n (by omega)) ?_)
    have hg := g_pos n d (by omega)
    have := raLow_l n d hn hd _ (n.natAbs : Int) d (by omega) (by omega) (Nat.le_refl _) (by rw [g_abs]; omega) (by rw [g_abs]; exact g_dvd_l n d) (by rw [g_abs]; exact g_dvd_r n d)
    rw [g_abs] at this
    exact this
  unfold spec_raLow.f
  by_cases h : d < 0
  · refine ifp h ?_
    rw [w64 (-n) (by omega), w64 (-d) (by omega)]
    refine evEq (key (-n) (-d) (by omega) (by omega) (by omega)) ?_
    unfold lowN lowD; rw [g_neg_l, g_neg_r, if_pos h, if_pos h]
  · refine ifn h (evEq (key n d hn hd (by omega)) ?_)
    unfold lowN lowD; rw [if_neg h, if_neg h]
/-! The reference's rows. -/
theorem upS_bd (B n d : Int) (s : List Int) (hn : 1 ≤ n ∧ n ≤ 100) (hd : 1 ≤ d ∧ d ≤ 100) (hs : Bd B s) (h0 : s ≠ []) : Bd (B * 100) (upS n d s) := by
  have hh := mul_bd n (s.headD 0) 100 B hn (hs.head h0)
  rw [Int.mul_comm 100 B] at hh
  intro x hx
  rcases List.mem_cons.1 hx with rfl | hx
  · unfold lowN; rw [if_neg (by omega)]; exact div_bd _ _ _ hh (g_pos _ _ (by omega)) (g_dvd_l _ _)
  · obtain ⟨z, hz, rfl⟩ := List.mem_map.1 hx
    have h1 := lowD_pos (n * s.headD 0) d (by omega)
    have h2 := lowD_le (n * s.headD 0) d (by omega)
    rw [if_neg (by omega)] at h2
    exact mul_bd _ _ _ _ (hs z hz) ⟨h1, by omega⟩
def rowS (l : List Rt) : List Int := l.foldr (fun x s => upS x.f0 x.f1 s) [1]
theorem rowS_len (l : List Rt) : (rowS l).length = l.length + 1 := by
  induction l with
  | nil => rfl
  | cons x l ih => show (upS x.f0 x.f1 (rowS l)).length = _; simp [upS, ih]
theorem rowS_ne (l : List Rt) : rowS l ≠ [] := by intro h; have := rowS_len l; rw [h] at this; simp at this
def good1 (x : Rt) : Prop := (1 ≤ x.f0 ∧ x.f0 ≤ 100) ∧ 1 ≤ x.f1 ∧ x.f1 ≤ 100
theorem rowS_bd (l : List Rt) (h : ∀ x ∈ l, good1 x) : Bd (100 ^ l.length) (rowS l) := by
  induction l with
  | nil => intro x hx; rw [show rowS [] = [1] from rfl, List.mem_singleton] at hx; subst hx; decide
  | cons x l ih =>
    have hx := h x (List.mem_cons_self ..)
    exact upS_bd _ x.f0 x.f1 (rowS l) hx.1 hx.2 (ih fun y hy => h y (List.mem_cons_of_mem _ hy)) (rowS_ne l)
theorem pw100 (k : Nat) (h : k ≤ 6) : (100 : Int) ^ k ≤ 1000000000000 := by
  have : k = 0 ∨ k = 1 ∨ k = 2 ∨ k = 3 ∨ k = 4 ∨ k = 5 ∨ k = 6 := by omega
  rcases this with rfl | rfl | rfl | rfl | rfl | rfl | rfl <;> decide
theorem rowS_bd6 (l : List Rt) (h : ∀ x ∈ l, good1 x) (hl : l.length ≤ 6) : Bd 1000000000000 (rowS l) := (rowS_bd l h).mono (pw100 _ hl)
/-! The program's rows. -/
theorem least_cons (x : Rt) (l : List Rt) : impl_leastChain.least (x :: l) = upI x.f0 x.f1 (impl_leastChain.least l) := rfl
theorem least_len (l : List Rt) : (impl_leastChain.least l).length = l.length + 1 := impl_leastChain.least_len l
theorem least_ne (l : List Rt) : impl_leastChain.least l ≠ [] := by intro h; have := least_len l; rw [h] at this; simp at this
theorem least_bd (l : List Rt) (h : ∀ x ∈ l, good1 x) : Bd (100 ^ l.length) (impl_leastChain.least l) := by
  induction l with
  | nil => intro x hx; rw [show impl_leastChain.least [] = [1] from rfl, List.mem_singleton] at hx; subst hx; decide
  | cons x l ih =>
    have hx := h x (List.mem_cons_self ..)
    exact upI_bd _ x.f0 x.f1 (impl_leastChain.least l) hx.1 hx.2 (ih fun y hy => h y (List.mem_cons_of_mem _ hy)) (least_ne l)
theorem least_bd6 (l : List Rt) (h : ∀ x ∈ l, good1 x) (hl : l.length ≤ 6) : Bd 1000000000000 (impl_leastChain.least l) := (least_bd l h).mono (pw100 _ hl)
theorem least_one (l : List Rt) (h : ∀ x ∈ l, good1 x) : gl (impl_leastChain.least l) = 1 := by
  cases l with
  | nil => rfl
  | cons x l =>
    have hx := h x (List.mem_cons_self ..)
    exact upI_one x.f0 x.f1 _ hx.1.1 hx.2.1 (least_bd l fun y hy => h y (List.mem_cons_of_mem _ hy)).pos (least_ne l)
theorem rows_prp (l : List Rt) (h : ∀ x ∈ l, good1 x) : Prp (rowS l) (impl_leastChain.least l) := by
  induction l with
  | nil => exact ⟨1, 1, by decide, by decide, rfl⟩
  | cons x l ih =>
    have hx := h x (List.mem_cons_self ..)
    have hl := fun y hy => h y (List.mem_cons_of_mem x hy)
    exact Prp_up x.f0 x.f1 _ _ hx.1.1 hx.2.1 (ih hl) (least_bd l hl).pos (least_ne l)
theorem rows_low (l : List Rt) (h : ∀ x ∈ l, good1 x) : (rowS l).map (· / gl (rowS l)) = impl_leastChain.least l :=
  Prp_low _ _ (rows_prp l h) (least_one l h) (rowS_bd l h).pos (rowS_ne l)
theorem gl_from (s : List Int) (hs : Pos s) (h0 : s ≠ []) : s.foldl g (s.headD 0) = gl s := by
  obtain ⟨x, t, rfl⟩ := List.exists_cons_of_ne_nil h0
  show t.foldl g (g x x) = t.foldl g (g 0 x)
  congr 1
  unfold g
  rw [Int.gcd_self, Int.gcd_zero_left]
/-! The reference's loops. -/
theorem raLeast_l4 (s : List Int) (al : Int) (hs : s.length ≤ 7) (ha : al ≠ 0) (n : Nat) : ∀ i : Nat, i ≤ s.length → s.length - i ≤ n →
    Ev (fun k => spec_raLeast.l4 k (Bw.upd (fun y => wrap64 (y.tdiv al)) s i) al (s.length : Int) (i : Int)) (s.map fun y => wrap64 (y.tdiv al)) := by
  have stop : Ev (fun k => spec_raLeast.l4 k (Bw.upd (fun y => wrap64 (y.tdiv al)) s s.length) al (s.length : Int) (s.length : Int)) (s.map fun y => wrap64 (y.tdiv al)) := by
    refine Ev.step (f := fun k => _) (fun k => by rw [spec_raLeast.l4]) (ifn (by omega) ?_)
    rw [Bw.upd_all]; exact now
  induction n with
  | zero =>
    intro i h1 h2
    obtain rfl : i = s.length := by omega
    exact stop
  | succ n ih =>
    intro i h1 h2
    by_cases hi : i < s.length
    · have hul := Bw.upd_len (fun y => wrap64 (y.tdiv al)) s i
      refine Ev.step (f := fun k => _) (fun k => by rw [spec_raLeast.l4]) (ifp (by omega) (ifp (by omega) (ifp (by omega) (ifn ha ?_))))
      have hrd : rd (Bw.upd (fun y => wrap64 (y.tdiv al)) s i) (i : Int) = s.getD i 0 := by
        simp only [rd, Int.toNat_natCast]
        rw [List.getD_eq_getElem?_getD, Bw.upd_get _ _ _ hi]; rfl
      rw [hrd, Int.toNat_natCast, Bw.upd_set (fun y => wrap64 (y.tdiv al)) s i hi, w64 _ (by omega)]
      exact ih (i + 1) (by omega) (by omega)
    · obtain rfl : i = s.length := by omega
      exact stop
theorem raLeast_l3 (s t : List Int) (N i : Int) (r : List Int) (m : Nat) : ∀ a b : Int, 0 ≤ a → 0 ≤ b → b.natAbs ≤ m → Ev (fun k => spec_raLeast.l2 k s (g a b) t N (wrap64 (i + 1))) r →
    Ev (fun k => spec_raLeast.l3 k s a b t N i) r := by
  induction m with
  | zero =>
    intro a b ha hb0 hb h
    have h0 : b = 0 := by omega
    refine Ev.step (f := fun k => _) (fun k => by rw [spec_raLeast.l3]) (ifn (by omega) ?_)
    rw [h0, g_zero, Int.natAbs_of_nonneg ha] at h
    exact h
  | succ m ih =>
    intro a b ha hb0 hb h
    by_cases h0 : b = 0
    · refine Ev.step (f := fun k => _) (fun k => by rw [spec_raLeast.l3]) (ifn (by omega) ?_)
      rw [h0, g_zero, Int.natAbs_of_nonneg ha] at h
      exact h
    · refine Ev.step (f := fun k => _) (fun k => by rw [spec_raLeast.l3]) (ifp (by omega) (ifn (by omega) ?_))
      have h1 := natAbs_tmod_lt a b h0
      have h2 := Int.tmod_nonneg b ha
      exact ih b (a.tmod b) hb0 h2 (by omega) (by rw [g_step a b h0]; exact h)
theorem raLeast_l2 (s : List Int) (hb : Bd 1000000000000 s) (hs : s.length ≤ 7) (h0 : s ≠ []) (n : Nat) : ∀ (i : Nat) (a : Int), i ≤ s.length → s.length - i ≤ n → 0 ≤ a → (s.drop i).foldl g a = gl s →
    Ev (fun k => spec_raLeast.l2 k s a s (s.length : Int) (i : Int)) (s.map (· / gl s)) := by
  have stop : ∀ a : Int, (s.drop s.length).foldl g a = gl s → Ev (fun k => spec_raLeast.l2 k s a s (s.length : Int) (s.length : Int)) (s.map (· / gl s)) := by
    intro a h
    rw [List.drop_length] at h
    obtain rfl : a = gl s := h
    have hp := gl_pos s hb.pos h0
    refine Ev.step (f := fun k => _) (fun k => by rw [spec_raLeast.l2]) (ifn (by omega) ?_)
    have := raLeast_l4 s (gl s) hs (by omega) _ 0 (Nat.zero_le _) (Nat.le_refl _)
    rw [Bw.upd_zero, end_num 1000000000000 s (by decide) hb h0] at this
    exact this
  induction n with
  | zero =>
    intro i a h1 h2 _ h
    obtain rfl : i = s.length := by omega
    exact stop a h
  | succ n ih =>
    intro i a h1 h2 ha h
    by_cases hi : i < s.length
    · refine Ev.step (f := fun k => _) (fun k => by rw [spec_raLeast.l2]) (ifp (by omega) (ifp (by omega) (ifp (by omega) ?_)))
      rw [rd_get s i hi]
      have hx := hb s[i] (List.getElem_mem hi)
      refine raLeast_l3 s s _ _ _ _ a s[i] ha (by omega) (Nat.le_refl _) ?_
      rw [w64 _ (by omega)]
      rw [List.drop_eq_getElem_cons hi, List.foldl_cons] at h
      exact ih (i + 1) _ (by omega) (by omega) (g_nonneg _ _) h
    · obtain rfl : i = s.length := by omega
      exact stop a h
theorem raLeast_l1 (l : List Rt) (q : Int) (s : List Int) (nu de : Int) (r : List Int) (hs : s.length ≤ 7) (hw : ∀ x ∈ s, wrap64 (x * de) = x * de) (hr : Ev (fun k => spec_raLeast.l0 k l (nu :: s.map (· * de)) (wrap64 (q - 1))) r) (n : Nat) :
    ∀ i : Nat, i ≤ s.length → s.length - i ≤ n → Ev (fun k => spec_raLeast.l1 k l q de (nu :: (s.take i).map (· * de)) s (s.length : Int) (i : Int)) r := by
  have stop : Ev (fun k => spec_raLeast.l1 k l q de (nu :: (s.take s.length).map (· * de)) s (s.length : Int) (s.length : Int)) r := by
    refine Ev.step (f := fun k => _) (fun k => by rw [spec_raLeast.l1]) (ifn (by omega) ?_)
    rw [List.take_length]; exact hr
  induction n with
  | zero =>
    intro i h1 h2
    obtain rfl : i = s.length := by omega
    exact stop
  | succ n ih =>
    intro i h1 h2
    by_cases hi : i < s.length
    · refine Ev.step (f := fun k => _) (fun k => by rw [spec_raLeast.l1]) (ifp (by omega) (ifp (by omega) (ifp (by omega) (ifp (by simp; omega) ?_))))
      rw [rd_get s i hi, hw _ (List.getElem_mem hi), w64 _ (by omega)]
      have e : (nu :: (s.take i).map (· * de)) ++ [s[i] * de] = nu :: (s.take (i + 1)).map (· * de) := by
        rw [List.take_add_one, List.getElem?_eq_getElem hi, List.map_append]; rfl
      rw [e]
      exact ih (i + 1) (by omega) (by omega)
    · obtain rfl : i = s.length := by omega
      exact stop
theorem raLeast_l0 (l : List Rt) (hg : ∀ x ∈ l, good1 x) (hl : l.length ≤ 6) (n : Nat) : ∀ i : Nat, i ≤ l.length → i ≤ n →
    Ev (fun k => spec_raLeast.l0 k l (rowS (l.drop i)) ((i : Int) - 1)) (impl_leastChain.least l) := by
  have stop : Ev (fun k => spec_raLeast.l0 k l (rowS (l.drop 0)) (((0 : Nat) : Int) - 1)) (impl_leastChain.least l) := by
    have hb := rowS_bd6 l hg hl
    have hn := rowS_len l
    refine Ev.step (f := fun k => _) (fun k => by rw [spec_raLeast.l0]) (ifn (by omega) (ifp (by rw [List.drop_zero]; omega) ?_))
    rw [List.drop_zero, ← rows_low l hg]
    have h0 : rd (rowS l) 0 = (rowS l).headD 0 := by
      obtain ⟨x, t, e⟩ := List.exists_cons_of_ne_nil (rowS_ne l)
      rw [e]; rfl
    rw [h0]
    have hh := hb.head (rowS_ne l)
    have := raLeast_l2 (rowS l) hb (by omega) (rowS_ne l) _ 0 ((rowS l).headD 0) (Nat.zero_le _) (Nat.le_refl _) (by omega) (by rw [List.drop_zero]; exact gl_from _ hb.pos (rowS_ne l))
    exact this
  induction n with
  | zero =>
    intro i _ h2
    obtain rfl : i = 0 := by omega
    exact stop
  | succ n ih =>
    intro i h1 h2
    by_cases hi : i = 0
    · subst hi; exact stop
    · obtain ⟨j, rfl⟩ : ∃ j, i = j + 1 := ⟨i - 1, by omega⟩
      have hj : j < l.length := by omega
      have hx : (1 ≤ l[j].f0 ∧ l[j].f0 ≤ 100) ∧ 1 ≤ l[j].f1 ∧ l[j].f1 ≤ 100 := hg l[j] (List.getElem_mem hj)
      have hd : ∀ x ∈ l.drop (j + 1), good1 x := fun x h => hg x (List.mem_of_mem_drop h)
      have hdl : (l.drop (j + 1)).length ≤ 5 := by rw [List.length_drop]; omega
      have hsl := rowS_len (l.drop (j + 1))
      have hb : Bd 10000000000 (rowS (l.drop (j + 1))) := (rowS_bd _ hd).mono (by
        generalize (l.drop (j + 1)).length = k at hdl
        have : k = 0 ∨ k = 1 ∨ k = 2 ∨ k = 3 ∨ k = 4 ∨ k = 5 := by omega
        rcases this with rfl | rfl | rfl | rfl | rfl | rfl <;> decide)
      have hhd := hb.head (rowS_ne (l.drop (j + 1)))
      have ei : ((j + 1 : Nat) : Int) - 1 = (j : Int) := by omega
      rw [ei]
      refine Ev.step (f := fun k => _) (fun k => by rw [spec_raLeast.l0]) (ifp (by omega) (ifp (by omega) (ifp (by omega) (ifp (by omega) ?_))))
      rw [rdR_get l j hj]
      have h0 : rd (rowS (l.drop (j + 1))) 0 = (rowS (l.drop (j + 1))).headD 0 := by
        obtain ⟨x, t, e⟩ := List.exists_cons_of_ne_nil (rowS_ne (l.drop (j + 1)))
        rw [e]; rfl
      rw [h0]
      have hm := mul_bd l[j].f0 ((rowS (l.drop (j + 1))).headD 0) 100 10000000000 hx.1 hhd
      rw [w64 _ (by omega)]
      refine Ev.bind (raLow _ _ (by omega) (by omega) (by omega)) ?_
      have hD1 := lowD_pos (l[j].f0 * (rowS (l.drop (j + 1))).headD 0) l[j].f1 (by omega)
      have hD2 := lowD_le (l[j].f0 * (rowS (l.drop (j + 1))).headD 0) l[j].f1 (by omega)
      rw [if_neg (by omega)] at hD2
      refine raLeast_l1 l (j : Int) (rowS (l.drop (j + 1))) _ _ _ (by omega) (fun x hx2 => ?_) ?_ _ 0 (Nat.zero_le _) (Nat.le_refl _)
      · have hx3 := mul_bd x _ 10000000000 100 (hb x hx2) ⟨hD1, show lowD (l[j].f0 * (rowS (l.drop (j + 1))).headD 0) l[j].f1 ≤ 100 by omega⟩
        exact w64 (x * lowD (l[j].f0 * (rowS (l.drop (j + 1))).headD 0) l[j].f1) (by omega)
      · rw [w64 _ (by omega)]
        have := ih j (by omega) (by omega)
        rw [List.drop_eq_getElem_cons hj] at this
        exact this
theorem raLeast (l : List Rt) (hg : ∀ x ∈ l, good1 x) (hl : l.length ≤ 6) : Ev (fun k => spec_raLeast.f k l) (impl_leastChain.least l) := by
  have := raLeast_l0 l hg hl _ l.length (Nat.le_refl _) (Nat.le_refl _)
  unfold spec_raLeast.f
  rw [w64 _ (by omega)]
  rw [List.drop_length] at this
  exact this
theorem leastChain (l : List Rt) (hg : ∀ x ∈ l, good1 x) (hl : l.length ≤ 6) : impl_leastChain.f l = some (impl_leastChain.least l) := by
  unfold impl_leastChain.f
  rw [if_pos]
  rw [Bool.and_eq_true, decide_eq_true_iff, List.all_eq_true]
  exact ⟨hl, fun x hx => decide_eq_true (hg x hx)⟩
end Go.Proofs.Ytnbolemfldmohaa.Pr
namespace Go.Proofs.Ytnbolemfldmohaa.Pr
open Go.RowKit Go.Proofs.Ytnbolemfldmohaa.P Go.Proofs.YtnbolemfldmohaaW.PrintWords Go.Proofs.Ytnbolemfldmohaa.E
def marksR (n : Nat) (m : Int) : List Rt := (List.range n).map fun i : Nat => ⟨m + 2 * (i : Int), m + 2 * (i : Int) + 1⟩
theorem marksR_length (n : Nat) (m : Int) : (marksR n m).length = n := by simp [marksR]
theorem marksR_get (n : Nat) (m : Int) (i : Nat) (h : i < n) : (marksR n m)[i]'(by rw [marksR_length]; exact h) = ⟨m + 2 * (i : Int), m + 2 * (i : Int) + 1⟩ := by simp [marksR]
theorem setR_mid (l : List Rt) (m : Int) (i : Nat) (h : i < l.length) (x : Rt) : (marksR i m ++ l.drop i).set i x = marksR i m ++ x :: l.drop (i + 1) := by
  rw [List.set_append_right _ _ (by rw [marksR_length]; exact Nat.le_refl _), marksR_length, Nat.sub_self, List.drop_eq_getElem_cons h, List.set_cons_zero]
theorem setR_mid2 (l : List Rt) (m : Int) (i : Nat) (x y : Rt) : (marksR i m ++ y :: l.drop (i + 1)).set i x = marksR i m ++ x :: l.drop (i + 1) := by
  rw [List.set_append_right _ _ (by rw [marksR_length]; exact Nat.le_refl _), marksR_length, Nat.sub_self, List.set_cons_zero]
theorem marksR_succ (l : List Rt) (m : Int) (i : Nat) : marksR i m ++ (⟨m + 2 * (i : Int), m + 2 * (i : Int) + 1⟩ : Rt) :: l.drop (i + 1) = marksR (i + 1) m ++ l.drop (i + 1) := by
  simp [marksR, List.range_succ]
theorem markRatioS_l (l : List Rt) (hl : l.length ≤ 1099511627776) (m : Int) (hm : m.natAbs ≤ 4611686018427387904) (n : Nat) : ∀ i : Nat, i ≤ l.length → l.length - i ≤ n →
    Ev (fun k => laws_markRatioS.l0 k (marksR i m ++ l.drop i) (m + 2 * i) (i : Int)) (m + 2 * l.length, marksR l.length m) := by
  have hlen : ∀ i, i ≤ l.length → (marksR i m ++ l.drop i).length = l.length := fun i h => by rw [List.length_append, marksR_length, List.length_drop]; omega
  have stop : Ev (fun k => laws_markRatioS.l0 k (marksR l.length m ++ l.drop l.length) (m + 2 * l.length) (l.length : Int)) (m + 2 * l.length, marksR l.length m) := by
    have h := hlen l.length (Nat.le_refl _)
    refine Ev.step (f := fun k => _) (fun k => by rw [laws_markRatioS.l0]) (ifn (by omega) (evEq now ?_))
    rw [List.drop_length, List.append_nil]
  induction n with
  | zero =>
    intro i h1 h2
    obtain rfl : i = l.length := by omega
    exact stop
  | succ n ih =>
    intro i h1 h2
    by_cases hi : i < l.length
    · have h := hlen i h1
      refine Ev.step (f := fun k => _) (fun k => by rw [laws_markRatioS.l0]) (ifp (by omega) (ifp (by omega) (call rfl ?_)))
      rw [w64 (m + 2 * i + 1) (by omega), w64 (i + 1) (by omega), w64 _ (by omega), Int.toNat_natCast, setR_mid l m i hi, setR_mid2, rdR_get _ i (by simp [marksR_length])]
      rw [List.getElem_append_right (by rw [marksR_length]; exact Nat.le_refl _)]
      simp only [marksR_length, Nat.sub_self, List.getElem_cons_zero]
      rw [marksR_succ]
      have := ih (i + 1) (by omega) (by omega)
      rw [show m + 2 * ((i + 1 : Nat) : Int) = m + 2 * (i : Int) + 1 + 1 by omega] at this
      exact this
    · obtain rfl : i = l.length := by omega
      exact stop
theorem markRatioS (l : List Rt) (hl : l.length ≤ 1099511627776) (m : Int) (hm : m.natAbs ≤ 4611686018427387904) : Ev (fun k => laws_markRatioS.f k l m) (m + 2 * l.length, marksR l.length m) := by
  have := markRatioS_l l hl m hm _ 0 (by omega) (Nat.le_refl _)
  simpa [marksR, laws_markRatioS.f] using this
end Go.Proofs.Ytnbolemfldmohaa.Pr
namespace Go.Proofs.Ytnbolemfldmohaa.Pure
open Go.RowKit Go.Proofs.Ytnbolemfldmohaa.P Go.Proofs.Ytnbolemfldmohaa.Pr Go.Proofs.Ytnbolemfldmohaa.E Go.Proofs.YtnbolemfldmohaaW.PrintWords
theorem chain_good (l : List Rt) (h : chain l = true) : (1 ≤ l.length ∧ l.length ≤ 6) ∧ ∀ x ∈ l, good1 x := by
  have := (chain_iff l).1 h
  exact ⟨this.1, fun x hx => ⟨⟨(this.2 x hx).1, (this.2 x hx).2.1⟩, (this.2 x hx).2.2⟩⟩
theorem LeastChain_both (l : List Rt) (hl : l.length ≤ 1048576) : ∃ v : List Int × Bool, v.1.length ≤ 1048576 ∧ Ev (fun k => spec_LeastChain.f k l) v ∧ impl_LeastChain.f l = some v := by
  unfold spec_LeastChain.f impl_LeastChain.f
  cases hc : chain l with
  | false => exact ⟨([], false), by simp, Ev.bind (evEq (raChain l (by omega)) hc) (ifn (by simp) now), by rw [areRatios, hc]; rfl⟩
  | true =>
    obtain ⟨h6, hg⟩ := chain_good l hc
    refine ⟨(impl_leastChain.least l, true), ?_, Ev.bind (evEq (raChain l (by omega)) hc) (ifp rfl (Ev.bind (raLeast l hg h6.2) now)), ?_⟩
    · have := least_len l
      show (impl_leastChain.least l).length ≤ _
      omega
    · rw [areRatios, hc]
      simp only [Option.bind_some, if_true, leastChain l hg h6.2]
theorem FnExactLeastChain : laws_FnExactLeastChain.Pure := by
  intro l hl hb _
  refine Ev.rounds ?_
  unfold laws_FnExactLeastChain.f
  refine call (szRatioS l (by omega)) ?_
  by_cases hs : l.length ≤ 1048576
  · have hl' : l.length ≤ 1099511627776 := by omega
    have hcl : (conv l).length ≤ 1048576 := by rw [conv_length]; exact hs
    have hc' : (conv l).length ≤ 1099511627776 := by omega
    rw [if_pos hs]
    refine ifn (by omega) ?_
    obtain ⟨v, hv, e1, e2⟩ := LeastChain_both (conv l) hcl
    refine Ev.bind (toRatioS l hl') (Ev.bind e1 (Ev.bind (toRatioS l hl') (call e2 (Ev.bind (eqIntS v.1 (by omega)) (ifp rfl ?_)))))
    refine Ev.step (f := fun k => _) (fun k => by rw [laws_FnExactLeastChain.j0]) (ifn (by simp) ?_)
    refine Ev.bind (toRatioS l hl') (Ev.bind (eqRatioS (conv l) hc') (ifp rfl ?_))
    refine Ev.bind (markRatioS (conv l) hc' 1 (by decide)) (ifn (by omega) ?_)
    refine Ev.bind (eqIntS v.1 (by omega)) (ifp rfl ?_)
    refine Ev.step (f := fun k => _) (fun k => by rw [laws_FnExactLeastChain.j1]) (ifn (by simp) ?_)
    refine Ev.bind (markIntS v.1 (by omega) 1 (by decide)) (Ev.bind (heldIntS v.1.length (by omega) 1 (by decide)) (ifn (by omega) (ifp rfl ?_)))
    refine Ev.bind (toRatioS l hl') (call e2 (Ev.bind (eqIntS v.1 (by omega)) (ifp rfl ?_)))
    refine Ev.step (f := fun k => _) (fun k => by rw [laws_FnExactLeastChain.j2]) (ifn (by simp) ?_)
    exact Ev.bind (heldIntS v.1.length (by omega) 1 (by decide)) (ifn (by omega) (ifp rfl now))
  · rw [if_neg hs]
    exact ifp (by omega) now
end Go.Proofs.Ytnbolemfldmohaa.Pure
