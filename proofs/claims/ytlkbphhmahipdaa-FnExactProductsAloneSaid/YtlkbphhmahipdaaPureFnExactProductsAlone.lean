/- The program's ProductsAlone tells what the reference's tells, for every limit and talk, and its row is its own. No condition. -/
import Derived.Test.YtlkbphhmahipdaaPx43
import Derived.Test.YtlkbphhmahipdaaAlone
import Derived.Test.YtlkbphhmahipdaaPx1
import Derived.Test.YtlkbphhmahipdaaPxHimplqisTalk
import Derived.Test.YtlkbphhmahipdaaEv
import Derived.Test.YtlkbphhmahipdaaPx25
namespace Go.Proofs.Ytlkbphhmahipdaa.Pr
open Go.RowKit Go.Proofs.Ytlkbphhmahipdaa.P Go.Proofs.YtlkbphhmahipdaaW.PrintWords Go.Proofs.Ytlkbphhmahipdaa.E
theorem taWho_same (a : ByteArray) : spec_taWho.f a = impl_isWho.f a := rfl
theorem taTalk_l (talk : ByteArray) (m : Nat) (hm : talk.size = 2 * m) (hs : m ≤ 12) (n : Nat) : ∀ j : Nat, j ≤ m → m - j ≤ n → Ev (fun k => spec_taTalk.l0 k talk (2 * (j : Int))) (((List.range m).drop j).all (impl_isTalk.one talk)) := by
  induction n with
  | zero =>
    intro j h1 h2
    obtain rfl : j = m := by omega
    exact Ev.step (f := fun k => _) (fun k => by rw [spec_taTalk.l0]) (ifn (by omega) (evEq now (by rw [List.drop_eq_nil_of_le (by simp)]; rfl)))
  | succ n ih =>
    intro j h1 h2
    by_cases hj : j < m
    · have hw := impl_isTalk.who talk (2 * j) (by omega)
      have e1 : wrap64 (2 * (j : Int) + 1) = 2 * (j : Int) + 1 := by unfold wrap64; omega
      have e2 : wrap64 (2 * (j : Int) + 2) = 2 * ((j + 1 : Nat) : Int) := by unfold wrap64; omega
      have e3 : (2 * (j : Int)).toNat = 2 * j := by omega
      have e4 : (2 * (j : Int) + 1).toNat = 2 * j + 1 := by omega
      have hd : (List.range m).drop j = j :: (List.range m).drop (j + 1) := by rw [List.drop_eq_getElem_cons (by simpa using hj)]; simp
      have e5 : ((2 * j : Nat) : Int) = 2 * (j : Int) := by omega
      rw [e5] at hw
      rw [hd, List.all_cons]
      have ihn := ih (j + 1) (by omega) (by omega)
      refine Ev.step (f := fun k => _) (fun k => by rw [spec_taTalk.l0]) (ifp (by omega) (ifp (by omega) ?_))
      rw [e1, e2, e3, e4]
      refine ifp (by omega) (ifp (by omega) (call (b := _) ((taWho_same _).trans hw) ?_))
      generalize ((List.range m).drop (j + 1)).all (impl_isTalk.one talk) = r at ihn
      unfold impl_isTalk.one
      by_cases hb : (decide (bt talk (2 * (j : Int)) = 115) || decide (bt talk (2 * (j : Int)) = 112)) = true
      · rw [hb]
        refine ifp rfl (ifp (by omega) (ifp (by omega) ?_))
        by_cases c1 : bt talk (2 * (j : Int) + 1) = 45
        · exact ifp c1 (evEq ihn (by simp [c1]))
        · refine ifn c1 ?_
          by_cases c2 : bt talk (2 * (j : Int) + 1) = 43
          · exact ifp c2 (evEq ihn (by simp [c2]))
          · refine ifn c2 ?_
            by_cases c3 : bt talk (2 * (j : Int) + 1) = 33
            · exact ifp c3 (evEq ihn (by simp [c3]))
            · exact ifn c3 (evEq now (by simp [c1, c2, c3]))
      · rw [Bool.not_eq_true] at hb
        rw [hb]
        exact ifn (by simp) (evEq now (by simp))
    · obtain rfl : j = m := by omega
      exact Ev.step (f := fun k => _) (fun k => by rw [spec_taTalk.l0]) (ifn (by omega) (evEq now (by rw [List.drop_eq_nil_of_le (by simp)]; rfl)))
theorem taTalk (talk : ByteArray) (h : talk.size ≤ 1048576) : Ev (fun k => spec_taTalk.f k talk) (impl_isTalk.ok talk) := by
  unfold spec_taTalk.f
  by_cases h1 : talk.size % 2 = 0
  · refine ifn (by omega) ?_
    by_cases h2 : talk.size ≤ 24
    · have hl := taTalk_l talk (talk.size / 2) (by omega) (by omega) _ 0 (Nat.zero_le _) (Nat.le_refl _)
      refine Ev.step (f := fun k => _) (fun k => by rw [spec_taTalk.j0]) (ifn (by simp; omega) ?_)
      refine evEq hl ?_
      simp [impl_isTalk.ok, h1, h2]
    · refine Ev.step (f := fun k => _) (fun k => by rw [spec_taTalk.j0]) (ifp (by simp; omega) (evEq now ?_))
      simp [impl_isTalk.ok, h2]
  · refine ifp (by omega) (Ev.step (f := fun k => _) (fun k => by rw [spec_taTalk.j0]) (ifp rfl (evEq now ?_)))
    simp [impl_isTalk.ok, h1]
end Go.Proofs.Ytlkbphhmahipdaa.Pr
namespace Go.Proofs.Ytlkbphhmahipdaa.Pr
open Go.RowKit Go.Proofs.Ytlkbphhmahipdaa.P Go.Proofs.YtlkbphhmahipdaaW.PrintWords Go.Proofs.Ytlkbphhmahipdaa.E
def marks (n : Nat) (m : Int) : List Int := (List.range n).map fun i : Nat => m + (i : Int)
theorem marks_length (n : Nat) (m : Int) : (marks n m).length = n := by simp [marks]
theorem marks_get (n : Nat) (m : Int) (i : Nat) (h : i < n) : (marks n m)[i]'(by rw [marks_length]; exact h) = m + i := by simp [marks]
theorem rd_get (l : List Int) (i : Nat) (h : i < l.length) : rd l (i : Int) = l[i] := by simp [rd, List.getD_eq_getElem?_getD, List.getElem?_eq_getElem h]
theorem eqIntS_l (l : List Int) (hl : l.length ≤ 1099511627776) (n : Nat) : ∀ i : Nat, i ≤ l.length → l.length - i ≤ n → Ev (fun k => laws_eqIntS.l0 k l l (i : Int)) true := by
  induction n with
  | zero =>
    intro i h1 h2
    exact Ev.step (f := fun k => _) (fun k => by rw [laws_eqIntS.l0]) (ifn (by omega) now)
  | succ n ih =>
    intro i h1 h2
    by_cases hi : i < l.length
    · refine Ev.step (f := fun k => _) (fun k => by rw [laws_eqIntS.l0]) (ifp (by omega) (ifp (by omega) (ifp (by omega) (ifp rfl ?_))))
      rw [w64 _ (by omega)]
      exact ih (i + 1) (by omega) (by omega)
    · exact Ev.step (f := fun k => _) (fun k => by rw [laws_eqIntS.l0]) (ifn (by omega) now)
theorem eqIntS (l : List Int) (hl : l.length ≤ 1099511627776) : Ev (fun k => laws_eqIntS.f k l l) true := by
  unfold laws_eqIntS.f
  exact ifp rfl (eqIntS_l l hl _ 0 (by omega) (Nat.le_refl _))
theorem set_mid (l : List Int) (m : Int) (i : Nat) (h : i < l.length) : (marks i m ++ l.drop i).set i (m + i) = marks (i + 1) m ++ l.drop (i + 1) := by
  rw [List.set_append_right _ _ (by rw [marks_length]; exact Nat.le_refl _), marks_length, Nat.sub_self, List.drop_eq_getElem_cons h, List.set_cons_zero]
  simp [marks, List.range_succ]
theorem markIntS_l (l : List Int) (hl : l.length ≤ 1099511627776) (m : Int) (hm : m.natAbs ≤ 4611686018427387904) (n : Nat) : ∀ i : Nat, i ≤ l.length → l.length - i ≤ n →
    Ev (fun k => laws_markIntS.l0 k (marks i m ++ l.drop i) (m + i) (i : Int)) (m + l.length, marks l.length m) := by
  have hlen : ∀ i, i ≤ l.length → (marks i m ++ l.drop i).length = l.length := fun i h => by rw [List.length_append, marks_length, List.length_drop]; omega
  have stop : Ev (fun k => laws_markIntS.l0 k (marks l.length m ++ l.drop l.length) (m + l.length) (l.length : Int)) (m + l.length, marks l.length m) := by
    have h := hlen l.length (Nat.le_refl _)
    refine Ev.step (f := fun k => _) (fun k => by rw [laws_markIntS.l0]) (ifn (by omega) (evEq now ?_))
    rw [List.drop_length, List.append_nil]
  induction n with
  | zero =>
    intro i h1 h2
    obtain rfl : i = l.length := by omega
    exact stop
  | succ n ih =>
    intro i h1 h2
    by_cases hi : i < l.length
    · have h := hlen i h1
      refine Ev.step (f := fun k => _) (fun k => by rw [laws_markIntS.l0]) (ifp (by omega) (ifp (by omega) ?_))
      rw [w64 (m + i + 1) (by omega), w64 (i + 1) (by omega), Int.toNat_natCast, set_mid l m i hi]
      have := ih (i + 1) (by omega) (by omega)
      rw [show ((i + 1 : Nat) : Int) = (i : Int) + 1 from rfl, ← Int.add_assoc] at this
      exact this
    · obtain rfl : i = l.length := by omega
      exact stop
theorem markIntS (l : List Int) (hl : l.length ≤ 1099511627776) (m : Int) (hm : m.natAbs ≤ 4611686018427387904) : Ev (fun k => laws_markIntS.f k l m) (m + l.length, marks l.length m) := by
  have := markIntS_l l hl m hm _ 0 (by omega) (Nat.le_refl _)
  simpa [marks, laws_markIntS.f] using this
theorem heldIntS_l (N : Nat) (hl : N ≤ 1099511627776) (m : Int) (hm : m.natAbs ≤ 4611686018427387904) (n : Nat) : ∀ i : Nat, i ≤ N → N - i ≤ n → Ev (fun k => laws_heldIntS.l0 k (marks N m) (m + i) (i : Int)) (m + N) := by
  have stop : Ev (fun k => laws_heldIntS.l0 k (marks N m) (m + N) (N : Int)) (m + N) :=
    Ev.step (f := fun k => _) (fun k => by rw [laws_heldIntS.l0]) (ifn (by rw [marks_length]; omega) now)
  induction n with
  | zero =>
    intro i h1 h2
    obtain rfl : i = N := by omega
    exact stop
  | succ n ih =>
    intro i h1 h2
    by_cases hi : i < N
    · refine Ev.step (f := fun k => _) (fun k => by rw [laws_heldIntS.l0]) (ifp (by rw [marks_length]; omega) (ifp (by omega) (ifp ?_ ?_)))
      · rw [rd_get _ _ (by rw [marks_length]; exact hi), marks_get N m i hi]
      · rw [w64 (m + i + 1) (by omega), w64 (i + 1) (by omega)]
        have := ih (i + 1) (by omega) (by omega)
        rw [show ((i + 1 : Nat) : Int) = (i : Int) + 1 from rfl, ← Int.add_assoc] at this
        exact this
    · obtain rfl : i = N := by omega
      exact stop
theorem heldIntS (N : Nat) (hl : N ≤ 1099511627776) (m : Int) (hm : m.natAbs ≤ 4611686018427387904) : Ev (fun k => laws_heldIntS.f k (marks N m) m) (m + N) := by
  have := heldIntS_l N hl m hm _ 0 (by omega) (Nat.le_refl _)
  simpa [laws_heldIntS.f] using this
end Go.Proofs.Ytlkbphhmahipdaa.Pr
namespace Go.Proofs.Ytlkbphhmahipdaa.Pure
open Go.RowKit Go.Proofs.Ytlkbphhmahipdaa.P Go.Proofs.Ytlkbphhmahipdaa.Pr Go.Proofs.Ytlkbphhmahipdaa.E Go.Proofs.YtlkbphhmahipdaaW.PrintWords
theorem FnExactProductsAlone : laws_FnExactProductsAlone.Pure := by
  intro n talk _ _
  refine Ev.rounds ?_
  unfold laws_FnExactProductsAlone.f
  by_cases hs : talk.size ≤ 1048576
  · refine ifn (by omega) ?_
    have e1 : Ev (fun k => spec_ProductsAlone.f k n talk) (Al.aln false (impl_PairsLeft.rows n talk), impl_PairsLeft.ok n talk) := by
      obtain ⟨K, h⟩ := taTalk talk hs
      refine ⟨K, fun k hk => ?_⟩
      unfold spec_ProductsAlone.f
      exact if_pos (h k hk)
    have e2 : Ev (fun k => impl_ProductsAlone.f n talk) (Al.aln false (impl_PairsLeft.rows n talk), impl_PairsLeft.ok n talk) := ⟨0, fun k _ => by unfold impl_ProductsAlone.f; exact if_pos hs⟩
    have hv : (Al.aln false (impl_PairsLeft.rows n talk)).length ≤ 1601 := Al.alnN_len _ _
    generalize Al.aln false (impl_PairsLeft.rows n talk) = v at hv e1 e2
    generalize impl_PairsLeft.ok n talk = q at e1 e2
    refine Ev.bind e1 (Ev.bind e2 (Ev.bind (eqIntS v (by omega)) (ifp rfl ?_)))
    refine Ev.step (f := fun k => _) (fun k => by rw [laws_FnExactProductsAlone.j0]) (ifn (by simp) ?_)
    refine Ev.bind (markIntS v (by omega) 1 (by decide)) (Ev.bind (heldIntS v.length (by omega) 1 (by decide)) (ifn (by omega) (ifp rfl ?_)))
    refine Ev.bind e2 (Ev.bind (eqIntS v (by omega)) (ifp rfl ?_))
    refine Ev.step (f := fun k => _) (fun k => by rw [laws_FnExactProductsAlone.j1]) (ifn (by simp) ?_)
    exact Ev.bind (heldIntS v.length (by omega) 1 (by decide)) (ifn (by omega) (ifp rfl now))
  · exact ifp (by omega) now
end Go.Proofs.Ytlkbphhmahipdaa.Pure
