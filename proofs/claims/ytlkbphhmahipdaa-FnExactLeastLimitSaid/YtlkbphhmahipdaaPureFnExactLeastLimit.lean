/- The program's LeastLimit tells what the reference's tells, for every pair and talk. No condition. -/
import Derived.Test.YtlkbphhmahipdaaPx23
import Derived.Test.YtlkbphhmahipdaaPx7
import Derived.Test.YtlkbphhmahipdaaPx24
import Derived.Test.YtlkbphhmahipdaaPx22
import Derived.Test.YtlkbphhmahipdaaPxHspecqtaLimits
import Derived.Test.YtlkbphhmahipdaaPx1
import Derived.Test.YtlkbphhmahipdaaPxHimplqisTalk
import Derived.Test.YtlkbphhmahipdaaEv
namespace Go.Proofs.Ytlkbphhmahipdaa.Pr
open Go.RowKit Go.Proofs.Ytlkbphhmahipdaa.P Go.Proofs.YtlkbphhmahipdaaW.PrintWords Go.Proofs.Ytlkbphhmahipdaa.E
theorem taWho_same (a : ByteArray) : spec_taWho.f a = impl_isWho.f a := rfl
theorem taTalk_l (talk : ByteArray) (m : Nat) (hm : talk.size = 2 * m) (hs : m ≤ 12) (n : Nat) : ∀ j : Nat, j ≤ m → m - j ≤ n → Ev (fun k => spec_taTalk.l0 k talk (2 * (j : Int))) (((List.range m).drop j).all (impl_isTalk.one talk)) := by
  induction n with
  | zero =>
    intro j h1 h2
    obtain rfl : j = m := by omega
    exact Ev.step (f := fun k => _) (fun k => by rw [spec_taTalk.l0]) (ifn (by omega) (evEq now (by rw [List.drop_eq_nil_of_le (by simp)]; rfl)))
  | succ n ih =>
    intro j h1 h2
    by_cases hj : j < m
    · have hw := impl_isTalk.who talk (2 * j) (by omega)
      have e1 : wrap64 (2 * (j : Int) + 1) = 2 * (j : Int) + 1 := by unfold wrap64; omega
      have e2 : wrap64 (2 * (j : Int) + 2) = 2 * ((j + 1 : Nat) : Int) := by unfold wrap64; omega
      have e3 : (2 * (j : Int)).toNat = 2 * j := by omega
      have e4 : (2 * (j : Int) + 1).toNat = 2 * j + 1 := by omega
      have hd : (List.range m).drop j = j :: (List.range m).drop (j + 1) := by rw [List.drop_eq_getElem_cons (by simpa using hj)]; simp
      have e5 : ((2 * j : Nat) : Int) = 2 * (j : Int) := by omega
      rw [e5] at hw
      rw [hd, List.all_cons]
      have ihn := ih (j + 1) (by omega) (by omega)
      refine Ev.step (f := fun k => _) (fun k => by rw [spec_taTalk.l0]) (ifp (by omega) (ifp (by omega) ?_))
      rw [e1, e2, e3, e4]
      refine ifp (by omega) (ifp (by omega) (call (b := _) ((taWho_same _).trans hw) ?_))
      generalize ((List.range m).drop (j + 1)).all (impl_isTalk.one talk) = r at ihn
      unfold impl_isTalk.one
      by_cases hb : (decide (bt talk (2 * (j : Int)) = 115) || decide (bt talk (2 * (j : Int)) = 112)) = true
      · rw [hb]
        refine ifp rfl (ifp (by omega) (ifp (by omega) ?_))
        by_cases c1 : bt talk (2 * (j : Int) + 1) = 45
        · exact ifp c1 (evEq ihn (by simp [c1]))
        · refine ifn c1 ?_
          by_cases c2 : bt talk (2 * (j : Int) + 1) = 43
          · exact ifp c2 (evEq ihn (by simp [c2]))
          · refine ifn c2 ?_
            by_cases c3 : bt talk (2 * (j : Int) + 1) = 33
            · exact ifp c3 (evEq ihn (by simp [c3]))
            · exact ifn c3 (evEq now (by simp [c1, c2, c3]))
      · rw [Bool.not_eq_true] at hb
        rw [hb]
        exact ifn (by simp) (evEq now (by simp))
    · obtain rfl : j = m := by omega
      exact Ev.step (f := fun k => _) (fun k => by rw [spec_taTalk.l0]) (ifn (by omega) (evEq now (by rw [List.drop_eq_nil_of_le (by simp)]; rfl)))
theorem taTalk (talk : ByteArray) (h : talk.size ≤ 1048576) : Ev (fun k => spec_taTalk.f k talk) (impl_isTalk.ok talk) := by
  unfold spec_taTalk.f
  by_cases h1 : talk.size % 2 = 0
  · refine ifn (by omega) ?_
    by_cases h2 : talk.size ≤ 24
    · have hl := taTalk_l talk (talk.size / 2) (by omega) (by omega) _ 0 (Nat.zero_le _) (Nat.le_refl _)
      refine Ev.step (f := fun k => _) (fun k => by rw [spec_taTalk.j0]) (ifn (by simp; omega) ?_)
      refine evEq hl ?_
      simp [impl_isTalk.ok, h1, h2]
    · refine Ev.step (f := fun k => _) (fun k => by rw [spec_taTalk.j0]) (ifp (by simp; omega) (evEq now ?_))
      simp [impl_isTalk.ok, h2]
  · refine ifp (by omega) (Ev.step (f := fun k => _) (fun k => by rw [spec_taTalk.j0]) (ifp rfl (evEq now ?_)))
    simp [impl_isTalk.ok, h1]
end Go.Proofs.Ytlkbphhmahipdaa.Pr
namespace Go.Proofs.Ytlkbphhmahipdaa.Pr
open Go.RowKit Go.Proofs.Ytlkbphhmahipdaa.P Go.Proofs.YtlkbphhmahipdaaW.PrintWords Go.Proofs.Ytlkbphhmahipdaa.E
def pr (a b : Int) : Bool := decide ((1 ≤ a ∧ a ≤ b) ∧ b ≤ 40)
theorem in_f (a lo hi : Int) : spec_l1In.f a lo hi = some (decide (lo ≤ a ∧ a ≤ hi)) := by
  simp only [spec_l1In.f]
  by_cases h1 : lo ≤ a
  · rw [if_pos h1]; simp [h1]
  · rw [if_neg h1]; simp [h1]
theorem between_f (a lo hi : Int) : impl_between.f a lo hi = some (decide (lo ≤ a ∧ a ≤ hi)) := in_f a lo hi
theorem taPair40 (a b : Int) : spec_taPair.f 40 a b = some (pr a b) := by
  unfold spec_taPair.f spec_taLimit.f
  simp only [in_f, Option.bind_some]
  unfold pr
  by_cases h1 : 1 ≤ b ∧ b ≤ 40
  · by_cases h2 : 1 ≤ a ∧ a ≤ b
    · simp [h1, h2]
    · simp [h1]
  · have : ¬ ((1 ≤ a ∧ a ≤ b) ∧ b ≤ 40) := by omega
    simp only [h1, this]
    rfl
theorem isPair40 (a b : Int) : impl_isPair.f 40 a b = some (pr a b) := by
  unfold impl_isPair.f impl_isMost.f
  simp only [between_f, Option.bind_some]
  unfold pr
  rw [if_pos (by decide)]
  by_cases h2 : 1 ≤ a ∧ a ≤ b
  · rw [if_pos (by simpa using h2)]
    by_cases h1 : b ≤ 40
    · rw [decide_eq_true (show 1 ≤ b ∧ b ≤ 40 by omega), decide_eq_true ⟨h2, h1⟩]
    · rw [decide_eq_false (show ¬ (1 ≤ b ∧ b ≤ 40) by omega), decide_eq_false (fun h => h1 h.2)]
  · rw [if_neg (by simpa using h2), decide_eq_false (fun h => h2 h.1)]
theorem impl_lim (a b : Int) (talk : ByteArray) (ht : impl_isTalk.ok talk = true) (n : Nat) : ∀ q : Nat, 2 ≤ q → b ≤ (q : Int) → q ≤ 41 → 41 - q ≤ n → Ev (fun k => impl_LimitsOf.l0 k a b talk (spec_taLimits.lims a b talk q) (q : Int)) (spec_taLimits.lims a b talk 41, true) := by
  induction n with
  | zero =>
    intro q h1 h2 h3 h4
    obtain rfl : q = 41 := by omega
    exact Ev.step (f := fun k => _) (fun k => by rw [impl_LimitsOf.l0]) (ifn (by omega) now)
  | succ n ih =>
    intro q h1 h2 h3 h4
    by_cases hq : q ≤ 40
    · have hf : impl_isTrue.f (q : Int) a b talk = some (impl_isTrue.has_ (impl_isTrue.lft (q : Int) talk) a b) := by unfold impl_isTrue.f; rw [if_pos ⟨by omega, ht⟩]
      have hl := spec_taLimits.lims_len a b talk q
      have ihn := ih (q + 1) (by omega) (by omega) (by omega) (by omega)
      have e1 : wrap64 ((q : Int) + 1) = ((q + 1 : Nat) : Int) := by unfold wrap64; omega
      refine Ev.step (f := fun k => _) (fun k => by rw [impl_LimitsOf.l0]) (ifp (by omega) (call hf ?_))
      rw [e1]
      by_cases hb : impl_isTrue.has_ (impl_isTrue.lft (q : Int) talk) a b = true
      · rw [spec_taLimits.lims_yes a b talk q h1 h2 hb] at ihn
        exact ifp hb (ifp (by omega) ihn)
      · rw [spec_taLimits.lims_no a b talk q (by simpa using hb)] at ihn
        exact ifn hb ihn
    · obtain rfl : q = 41 := by omega
      exact Ev.step (f := fun k => _) (fun k => by rw [impl_LimitsOf.l0]) (ifn (by omega) now)
def vLim (a b : Int) (talk : ByteArray) : List Int × Bool := if pr a b = true ∧ impl_isTalk.ok talk = true then (spec_taLimits.lims a b talk 41, true) else ([], false)
theorem vLim_len (a b : Int) (talk : ByteArray) : (vLim a b talk).1.length ≤ 41 := by
  unfold vLim
  split
  · exact spec_taLimits.lims_len a b talk 41
  · exact Nat.zero_le _
theorem spec_Lim (a b : Int) (talk : ByteArray) (hs : talk.size ≤ 1048576) : Ev (fun k => spec_LimitsOf.f k a b talk) (vLim a b talk) := by
  unfold spec_LimitsOf.f vLim
  refine call (taPair40 a b) ?_
  by_cases hp : pr a b = true
  · refine ifp hp (Ev.bind (taTalk talk hs) ?_)
    by_cases ht : impl_isTalk.ok talk = true
    · refine evEq (r := (spec_taLimits.lims a b talk 41, true)) ?_ (if_pos ⟨hp, ht⟩).symm
      have hb : 1 ≤ b ∧ b ≤ 40 := by unfold pr at hp; simp only [decide_eq_true_eq] at hp; omega
      have hf : spec_taLimits.f a b talk = some (spec_taLimits.lims a b talk 41) := by unfold spec_taLimits.f; rw [if_pos ⟨hb, ht⟩]
      exact ifp ht (call hf now)
    · exact evEq (r := ([], false)) (ifn ht now) (if_neg (fun h => ht h.2)).symm
  · exact evEq (r := ([], false)) (ifn hp now) (if_neg (fun h => hp h.1)).symm
theorem impl_Lim (a b : Int) (talk : ByteArray) (hs : talk.size ≤ 1048576) : Ev (fun k => impl_LimitsOf.f k a b talk) (vLim a b talk) := by
  unfold impl_LimitsOf.f vLim
  refine call (isPair40 a b) ?_
  by_cases hp : pr a b = true
  · have hf : impl_isTalk.f talk = some (impl_isTalk.ok talk) := by unfold impl_isTalk.f; rw [if_pos hs]
    refine ifp hp (call hf ?_)
    by_cases ht : impl_isTalk.ok talk = true
    · refine evEq (r := (spec_taLimits.lims a b talk 41, true)) ?_ (if_pos ⟨hp, ht⟩).symm
      rw [ht]
      have hb : (1 ≤ a ∧ a ≤ b) ∧ b ≤ 40 := by unfold pr at hp; simpa using hp
      refine Ev.step (f := fun k => _) (fun k => by rw [impl_LimitsOf.j0]) (ifn (by simp) ?_)
      obtain ⟨q, hq⟩ : ∃ q : Nat, mx b 2 = (q : Int) ∧ 2 ≤ q ∧ b ≤ (q : Int) ∧ q ≤ 40 ∧ (q : Int) ≤ max 2 b := ⟨(mx b 2).toNat, by unfold mx; split <;> omega⟩
      rw [hq.1, ← spec_taLimits.lims_nil a b talk q hq.2.2.2.2]
      exact impl_lim a b talk ht _ q hq.2.1 hq.2.2.1 (by omega) (Nat.le_refl _)
    · refine evEq (r := ([], false)) ?_ (if_neg (fun h => ht h.2)).symm
      rw [Bool.not_eq_true] at ht
      rw [ht]
      exact Ev.step (f := fun k => _) (fun k => by rw [impl_LimitsOf.j0]) (ifp (by simp) now)
  · refine evEq (r := ([], false)) ?_ (if_neg (fun h => hp h.1)).symm
    exact ifn hp (Ev.step (f := fun k => _) (fun k => by rw [impl_LimitsOf.j0]) (ifp rfl now))
end Go.Proofs.Ytlkbphhmahipdaa.Pr
namespace Go.Proofs.Ytlkbphhmahipdaa.Pure
open Go.RowKit Go.Proofs.Ytlkbphhmahipdaa.P Go.Proofs.Ytlkbphhmahipdaa.Pr Go.Proofs.Ytlkbphhmahipdaa.E Go.Proofs.YtlkbphhmahipdaaW.PrintWords
theorem pick_first (xs : List Int) : Ev (fun _ => (if (xs.length : Int) = 0 then (some ((0 : Int), false)) else (if 0 < (xs.length : Int) then (some (rd xs 0, true)) else (none)))) (if xs.length = 0 then (0, false) else (rd xs 0, true)) := by
  by_cases h : xs.length = 0
  · exact evEq (r := (0, false)) (ifp (by omega) now) (if_pos h).symm
  · exact evEq (r := (rd xs 0, true)) (ifn (by omega) (ifp (by omega) now)) (if_neg h).symm
theorem FnExactLeastLimit : laws_FnExactLeastLimit.Pure := by
  intro a b talk _ _ _
  refine Ev.rounds ?_
  unfold laws_FnExactLeastLimit.f
  by_cases hs : talk.size ≤ 1048576
  · refine ifn (by omega) ?_
    have e2 := impl_Lim a b talk hs
    have e4 : Ev (fun k => impl_LeastLimit.f k a b talk) (if (vLim a b talk).2 = true then (if (vLim a b talk).1.length = 0 then ((0 : Int), false) else (rd (vLim a b talk).1 0, true)) else (0, false)) := by
      unfold impl_LeastLimit.f
      refine Ev.bind e2 ?_
      generalize vLim a b talk = v
      by_cases h : v.2 = true
      · exact evEq (ifp h (pick_first v.1)) (if_pos h).symm
      · exact evEq (r := (0, false)) (ifn h now) (if_neg h).symm
    have e3 : Ev (fun k => spec_LeastLimit.f k a b talk) (if (vLim a b talk).2 = true then (if (vLim a b talk).1.length = 0 then ((0 : Int), false) else (rd (vLim a b talk).1 0, true)) else (0, false)) := by
      unfold spec_LeastLimit.f
      refine call (taPair40 a b) ?_
      by_cases hp : pr a b = true
      · refine ifp hp (Ev.bind (taTalk talk hs) ?_)
        by_cases ht : impl_isTalk.ok talk = true
        · have hb : 1 ≤ b ∧ b ≤ 40 := by unfold pr at hp; simp only [decide_eq_true_eq] at hp; omega
          have hf : spec_taLimits.f a b talk = some (spec_taLimits.lims a b talk 41) := by unfold spec_taLimits.f; rw [if_pos ⟨hb, ht⟩]
          have ev : vLim a b talk = (spec_taLimits.lims a b talk 41, true) := if_pos ⟨hp, ht⟩
          rw [ev, ht]
          refine Ev.step (f := fun k => _) (fun k => by rw [spec_LeastLimit.j0]) (ifn (by simp) (call hf ?_))
          exact evEq (pick_first _) (if_pos rfl).symm
        · have ev : vLim a b talk = ([], false) := if_neg (fun h => ht h.2)
          rw [Bool.not_eq_true] at ht
          rw [ev, ht]
          exact evEq (r := ((0 : Int), false)) (Ev.step (f := fun k => _) (fun k => by rw [spec_LeastLimit.j0]) (ifp (by simp) now)) rfl
      · have ev : vLim a b talk = ([], false) := if_neg (fun h => hp h.1)
        rw [ev]
        exact evEq (r := ((0 : Int), false)) (ifn hp (Ev.step (f := fun k => _) (fun k => by rw [spec_LeastLimit.j0]) (ifp rfl now))) rfl
    generalize (if (vLim a b talk).2 = true then (if (vLim a b talk).1.length = 0 then ((0 : Int), false) else (rd (vLim a b talk).1 0, true)) else (0, false)) = v at e3 e4
    exact Ev.bind e3 (Ev.bind e4 (ifp rfl (ifn (by simp) now)))
  · exact ifp (by omega) now
end Go.Proofs.Ytlkbphhmahipdaa.Pure
