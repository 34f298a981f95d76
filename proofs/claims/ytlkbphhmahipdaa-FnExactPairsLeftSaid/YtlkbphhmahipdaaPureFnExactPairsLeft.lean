/- The program's PairsLeft tells what the reference's tells, for every limit and talk, and its rows are apart. No condition. -/
import Derived.Test.YtlkbphhmahipdaaPxHlawsqFnExactPairsLeft
import Derived.Test.YtlkbphhmahipdaaPxHimplqPairsLeft
import Derived.Test.YtlkbphhmahipdaaPxHimplqleft
import Derived.Test.YtlkbphhmahipdaaPx1
import Derived.Test.YtlkbphhmahipdaaPxHimplqisTalk
import Derived.Test.YtlkbphhmahipdaaEv
import Derived.Test.YtlkbphhmahipdaaPx28
import Derived.Test.YtlkbphhmahipdaaPxHlawsqmarkIntSS
import Derived.Test.YtlkbphhmahipdaaPx30
import Derived.Test.YtlkbphhmahipdaaPx25
namespace Go.Proofs.Ytlkbphhmahipdaa.Pr
open Go.RowKit Go.Proofs.Ytlkbphhmahipdaa.P Go.Proofs.YtlkbphhmahipdaaW.PrintWords Go.Proofs.Ytlkbphhmahipdaa.E
theorem taWho_same (a : ByteArray) : spec_taWho.f a = impl_isWho.f a := rfl
theorem taTalk_l (talk : ByteArray) (m : Nat) (hm : talk.size = 2 * m) (hs : m ≤ 12) (n : Nat) : ∀ j : Nat, j ≤ m → m - j ≤ n → Ev (fun k => spec_taTalk.l0 k talk (2 * (j : Int))) (((List.range m).drop j).all (impl_isTalk.one talk)) := by
  induction n with
  | zero =>
    intro j h1 h2
    obtain rfl : j = m := by omega
    exact Ev.step (f := fun k => _) (fun k => by rw [spec_taTalk.l0]) (ifn (by omega) (evEq now (by rw [List.drop_eq_nil_of_le (by simp)]; rfl)))
  | succ n ih =>
    intro j h1 h2
    by_cases hj : j < m
    · have hw := impl_isTalk.who talk (2 * j) (by omega)
      have e1 : wrap64 (2 * (j : Int) + 1) = 2 * (j : Int) + 1 := by unfold wrap64; omega
      have e2 : wrap64 (2 * (j : Int) + 2) = 2 * ((j + 1 : Nat) : Int) := by unfold wrap64; omega
      have e3 : (2 * (j : Int)).toNat = 2 * j := by omega
      have e4 : (2 * (j : Int) + 1).toNat = 2 * j + 1 := by omega
      have hd : (List.range m).drop j = j :: (List.range m).drop (j + 1) := by rw [List.drop_eq_getElem_cons (by simpa using hj)]; simp
      have e5 : ((2 * j : Nat) : Int) = 2 * (j : Int) := by omega
      rw [e5] at hw
      rw [hd, List.all_cons]
      have ihn := ih (j + 1) (by omega) (by omega)
      refine Ev.step (f := fun k => _) (fun k => by rw [spec_taTalk.l0]) (ifp (by omega) (ifp (by omega) ?_))
      rw [e1, e2, e3, e4]
      refine ifp (by omega) (ifp (by omega) (call (b := _) ((taWho_same _).trans hw) ?_))
      generalize ((List.range m).drop (j + 1)).all (impl_isTalk.one talk) = r at ihn
      unfold impl_isTalk.one
      by_cases hb : (decide (bt talk (2 * (j : Int)) = 115) || decide (bt talk (2 * (j : Int)) = 112)) = true
      · rw [hb]
        refine ifp rfl (ifp (by omega) (ifp (by omega) ?_))
        by_cases c1 : bt talk (2 * (j : Int) + 1) = 45
        · exact ifp c1 (evEq ihn (by simp [c1]))
        · refine ifn c1 ?_
          by_cases c2 : bt talk (2 * (j : Int) + 1) = 43
          · exact ifp c2 (evEq ihn (by simp [c2]))
          · refine ifn c2 ?_
            by_cases c3 : bt talk (2 * (j : Int) + 1) = 33
            · exact ifp c3 (evEq ihn (by simp [c3]))
            · exact ifn c3 (evEq now (by simp [c1, c2, c3]))
      · rw [Bool.not_eq_true] at hb
        rw [hb]
        exact ifn (by simp) (evEq now (by simp))
    · obtain rfl : j = m := by omega
      exact Ev.step (f := fun k => _) (fun k => by rw [spec_taTalk.l0]) (ifn (by omega) (evEq now (by rw [List.drop_eq_nil_of_le (by simp)]; rfl)))
theorem taTalk (talk : ByteArray) (h : talk.size ≤ 1048576) : Ev (fun k => spec_taTalk.f k talk) (impl_isTalk.ok talk) := by
  unfold spec_taTalk.f
  by_cases h1 : talk.size % 2 = 0
  · refine ifn (by omega) ?_
    by_cases h2 : talk.size ≤ 24
    · have hl := taTalk_l talk (talk.size / 2) (by omega) (by omega) _ 0 (Nat.zero_le _) (Nat.le_refl _)
      refine Ev.step (f := fun k => _) (fun k => by rw [spec_taTalk.j0]) (ifn (by simp; omega) ?_)
      refine evEq hl ?_
      simp [impl_isTalk.ok, h1, h2]
    · refine Ev.step (f := fun k => _) (fun k => by rw [spec_taTalk.j0]) (ifp (by simp; omega) (evEq now ?_))
      simp [impl_isTalk.ok, h2]
  · refine ifp (by omega) (Ev.step (f := fun k => _) (fun k => by rw [spec_taTalk.j0]) (ifp rfl (evEq now ?_)))
    simp [impl_isTalk.ok, h1]
end Go.Proofs.Ytlkbphhmahipdaa.Pr
namespace Go.Proofs.Ytlkbphhmahipdaa.Pr
open Go.RowKit Go.Proofs.Ytlkbphhmahipdaa.P Go.Proofs.YtlkbphhmahipdaaW.PrintWords Go.Proofs.Ytlkbphhmahipdaa.E
theorem rest_bd (n : Nat) (hn : n ≤ 40) (sp : Nat → Bool) (wt : Nat → Int) (j : Nat) : (impl_left.rest n sp wt j).length ≤ 2000 ∧ ∀ x ∈ impl_left.rest n sp wt j, ∃ a b : Int, x = [a, b] ∧ 1 ≤ a ∧ a ≤ b ∧ b ≤ (n : Int) := by
  induction j with
  | zero =>
    refine ⟨?_, fun x hx => impl_left.all_mem _ n x hx⟩
    have h := impl_left.all_len (fun _ _ => true) n n
    have : n * n ≤ 40 * 40 := Nat.mul_le_mul hn hn
    show (impl_pairsThat.all (fun _ _ => true) n n).length ≤ 2000
    omega
  | succ j ih =>
    refine ⟨Nat.le_trans (List.length_filter_le _ _) ih.1, fun x hx => ih.2 x (List.mem_filter.1 hx).1⟩
theorem rows_bd (n : Int) (talk : ByteArray) : (impl_PairsLeft.rows n talk).length ≤ 2000 ∧ ∀ x ∈ impl_PairsLeft.rows n talk, ∃ a b : Int, x = [a, b] ∧ 1 ≤ a ∧ a ≤ b ∧ b ≤ n ∧ b ≤ 40 := by
  unfold impl_PairsLeft.rows
  by_cases h : impl_PairsLeft.ok n talk = true
  · rw [if_pos h]
    have hc : (2 ≤ n ∧ n ≤ 40) ∧ impl_isTalk.ok talk = true := by simpa [impl_PairsLeft.ok] using h
    obtain ⟨m, rfl⟩ := Int.eq_ofNat_of_zero_le (show 0 ≤ n by omega)
    have := rest_bd m (by omega) (impl_isTrue.sp talk) (impl_isTrue.wt talk) (talk.size / 2)
    refine ⟨this.1, fun x hx => ?_⟩
    obtain ⟨a, b, e, h1, h2, h3⟩ := this.2 x hx
    exact ⟨a, b, e, h1, h2, h3, by omega⟩
  · rw [if_neg h]
    exact ⟨by simp, fun x hx => by cases hx⟩
theorem tot_two (xs : List (List Int)) (h : ∀ x ∈ xs, x.length = 2) : (xs.map List.length).sum = 2 * xs.length := by
  induction xs with
  | nil => rfl
  | cons x xs ih =>
    have h1 := h x (List.mem_cons_self ..)
    have h2 := ih (fun y hy => h y (List.mem_cons_of_mem _ hy))
    simp only [List.map_cons, List.sum_cons, List.length_cons]
    omega
end Go.Proofs.Ytlkbphhmahipdaa.Pr
namespace Go.Proofs.Ytlkbphhmahipdaa.Pr
open Go.RowKit Go.Proofs.Ytlkbphhmahipdaa.P Go.Proofs.YtlkbphhmahipdaaW.PrintWords Go.Proofs.Ytlkbphhmahipdaa.E
def marks (n : Nat) (m : Int) : List Int := (List.range n).map fun i : Nat => m + (i : Int)
theorem marks_length (n : Nat) (m : Int) : (marks n m).length = n := by simp [marks]
theorem marks_get (n : Nat) (m : Int) (i : Nat) (h : i < n) : (marks n m)[i]'(by rw [marks_length]; exact h) = m + i := by simp [marks]
theorem rd_get (l : List Int) (i : Nat) (h : i < l.length) : rd l (i : Int) = l[i] := by simp [rd, List.getD_eq_getElem?_getD, List.getElem?_eq_getElem h]
theorem eqIntS_l (l : List Int) (hl : l.length ≤ 1099511627776) (n : Nat) : ∀ i : Nat, i ≤ l.length → l.length - i ≤ n → Ev (fun k => laws_eqIntS.l0 k l l (i : Int)) true := by
  induction n with
  | zero =>
    intro i h1 h2
    exact Ev.step (f := fun k => _) (fun k => by rw [laws_eqIntS.l0]) (ifn (by omega) now)
  | succ n ih =>
    intro i h1 h2
    by_cases hi : i < l.length
    · refine Ev.step (f := fun k => _) (fun k => by rw [laws_eqIntS.l0]) (ifp (by omega) (ifp (by omega) (ifp (by omega) (ifp rfl ?_))))
      rw [w64 _ (by omega)]
      exact ih (i + 1) (by omega) (by omega)
    · exact Ev.step (f := fun k => _) (fun k => by rw [laws_eqIntS.l0]) (ifn (by omega) now)
theorem eqIntS (l : List Int) (hl : l.length ≤ 1099511627776) : Ev (fun k => laws_eqIntS.f k l l) true := by
  unfold laws_eqIntS.f
  exact ifp rfl (eqIntS_l l hl _ 0 (by omega) (Nat.le_refl _))
theorem set_mid (l : List Int) (m : Int) (i : Nat) (h : i < l.length) : (marks i m ++ l.drop i).set i (m + i) = marks (i + 1) m ++ l.drop (i + 1) := by
  rw [List.set_append_right _ _ (by rw [marks_length]; exact Nat.le_refl _), marks_length, Nat.sub_self, List.drop_eq_getElem_cons h, List.set_cons_zero]
  simp [marks, List.range_succ]
theorem markIntS_l (l : List Int) (hl : l.length ≤ 1099511627776) (m : Int) (hm : m.natAbs ≤ 4611686018427387904) (n : Nat) : ∀ i : Nat, i ≤ l.length → l.length - i ≤ n →
    Ev (fun k => laws_markIntS.l0 k (marks i m ++ l.drop i) (m + i) (i : Int)) (m + l.length, marks l.length m) := by
  have hlen : ∀ i, i ≤ l.length → (marks i m ++ l.drop i).length = l.length := fun i h => by rw [List.length_append, marks_length, List.length_drop]; omega
  have stop : Ev (fun k => laws_markIntS.l0 k (marks l.length m ++ l.drop l.length) (m + l.length) (l.length : Int)) (m + l.length, marks l.length m) := by
    have h := hlen l.length (Nat.le_refl _)
    refine Ev.step (f := fun k => _) (fun k => by rw [laws_markIntS.l0]) (ifn (by omega) (evEq now ?_))
    rw [List.drop_length, List.append_nil]
  induction n with
  | zero =>
    intro i h1 h2
    obtain rfl : i = l.length := by omega
    exact stop
  | succ n ih =>
    intro i h1 h2
    by_cases hi : i < l.length
    · have h := hlen i h1
      refine Ev.step (f := fun k => _) (fun k => by rw [laws_markIntS.l0]) (ifp (by omega) (ifp (by omega) ?_))
      rw [w64 (m + i + 1) (by omega), w64 (i + 1) (by omega), Int.toNat_natCast, set_mid l m i hi]
      have := ih (i + 1) (by omega) (by omega)
      rw [show ((i + 1 : Nat) : Int) = (i : Int) + 1 from rfl, ← Int.add_assoc] at this
      exact this
    · obtain rfl : i = l.length := by omega
      exact stop
theorem markIntS (l : List Int) (hl : l.length ≤ 1099511627776) (m : Int) (hm : m.natAbs ≤ 4611686018427387904) : Ev (fun k => laws_markIntS.f k l m) (m + l.length, marks l.length m) := by
  have := markIntS_l l hl m hm _ 0 (by omega) (Nat.le_refl _)
  simpa [marks, laws_markIntS.f] using this
theorem heldIntS_l (N : Nat) (hl : N ≤ 1099511627776) (m : Int) (hm : m.natAbs ≤ 4611686018427387904) (n : Nat) : ∀ i : Nat, i ≤ N → N - i ≤ n → Ev (fun k => laws_heldIntS.l0 k (marks N m) (m + i) (i : Int)) (m + N) := by
  have stop : Ev (fun k => laws_heldIntS.l0 k (marks N m) (m + N) (N : Int)) (m + N) :=
    Ev.step (f := fun k => _) (fun k => by rw [laws_heldIntS.l0]) (ifn (by rw [marks_length]; omega) now)
  induction n with
  | zero =>
    intro i h1 h2
    obtain rfl : i = N := by omega
    exact stop
  | succ n ih =>
    intro i h1 h2
    by_cases hi : i < N
    · refine Ev.step (f := fun k => _) (fun k => by rw [laws_heldIntS.l0]) (ifp (by rw [marks_length]; omega) (ifp (by omega) (ifp ?_ ?_)))
      · rw [rd_get _ _ (by rw [marks_length]; exact hi), marks_get N m i hi]
      · rw [w64 (m + i + 1) (by omega), w64 (i + 1) (by omega)]
        have := ih (i + 1) (by omega) (by omega)
        rw [show ((i + 1 : Nat) : Int) = (i : Int) + 1 from rfl, ← Int.add_assoc] at this
        exact this
    · obtain rfl : i = N := by omega
      exact stop
theorem heldIntS (N : Nat) (hl : N ≤ 1099511627776) (m : Int) (hm : m.natAbs ≤ 4611686018427387904) : Ev (fun k => laws_heldIntS.f k (marks N m) m) (m + N) := by
  have := heldIntS_l N hl m hm _ 0 (by omega) (Nat.le_refl _)
  simpa [laws_heldIntS.f] using this
end Go.Proofs.Ytlkbphhmahipdaa.Pr
namespace Go.Proofs.Ytlkbphhmahipdaa.Pr
open Go.RowKit Go.Proofs.Ytlkbphhmahipdaa.P Go.Proofs.YtlkbphhmahipdaaW.PrintWords Go.Proofs.Ytlkbphhmahipdaa.E
def tot (xs : List (List Int)) : Nat := (xs.map List.length).sum
def mkAll : Int → List (List Int) → List (List Int)
  | _, [] => []
  | m, x :: xs => marks x.length m :: mkAll (m + x.length) xs
theorem mkAll_len (xs : List (List Int)) : ∀ m, (mkAll m xs).length = xs.length := by
  induction xs with
  | nil => intro m; rfl
  | cons x xs ih => intro m; simp [mkAll, ih]
theorem tot_cons (x : List Int) (xs : List (List Int)) : tot (x :: xs) = x.length + tot xs := by simp [tot]
theorem rdL_mid (pre : List (List Int)) (x : List Int) (xs : List (List Int)) : rd_L1 (pre ++ x :: xs) (pre.length : Int) = x := by
  simp [rd_L1, List.getD_eq_getElem?_getD]
theorem markIntSS_l (rest : List (List Int)) : ∀ (pre : List (List Int)) (a : Int), 0 ≤ a → a + tot rest ≤ 1000000000 → Ev (fun k => laws_markIntSS.lp k (pre ++ rest) a pre.length) (a + tot rest, pre ++ mkAll a rest) := by
  induction rest with
  | nil =>
    intro pre a _ _
    refine Ev.step (f := fun k => _) (fun k => by rw [laws_markIntSS.lp]) (ifn (by simp) (evEq now ?_))
    simp [tot, mkAll]
  | cons x xs ih =>
    intro pre a h0 h1
    rw [tot_cons] at h1
    have e := ih (pre ++ [marks x.length a]) (a + x.length) (by omega) (by omega)
    refine Ev.step (f := fun k => _) (fun k => by rw [laws_markIntSS.lp]) (ifp (by simp) ?_)
    have e0 : (pre ++ x :: xs).getD ((pre.length : Int)).toNat [] = x := rdL_mid pre x xs
    first | rw [rdL_mid] | rw [e0]
    refine Ev.bind (markIntS x (by omega) a (by omega)) (evEq (r := (a + x.length + tot xs, (pre ++ [marks x.length a]) ++ mkAll (a + x.length) xs)) ?_ ?_)
    · have e2 : (pre ++ x :: xs).set pre.length (marks x.length a) = (pre ++ [marks x.length a]) ++ xs := by simp
      rw [e2]
      simpa using e
    · rw [tot_cons, mkAll]
      simp
      omega
theorem markIntSS (xs : List (List Int)) (h : tot xs ≤ 100000000) : Ev (fun k => laws_markIntSS.f k xs 1) (1 + tot xs, mkAll 1 xs) := by
  have := markIntSS_l xs [] 1 (by omega) (by omega)
  exact this
theorem heldIntSS_l (rest : List (List Int)) : ∀ (pre : List (List Int)) (a : Int), 0 ≤ a → a + tot rest ≤ 1000000000 → pre.length + rest.length ≤ 1000000 → Ev (fun k => laws_heldIntSS.l0 k (pre ++ mkAll a rest) a (pre.length : Int)) (a + tot rest) := by
  induction rest with
  | nil =>
    intro pre a _ _ _
    refine Ev.step (f := fun k => _) (fun k => by rw [laws_heldIntSS.l0]) (ifn (by simp [mkAll]) (evEq now ?_))
    simp [tot]
  | cons x xs ih =>
    intro pre a h0 h1 h2
    rw [tot_cons] at h1
    simp only [List.length_cons] at h2
    have e := ih (pre ++ [marks x.length a]) (a + x.length) (by omega) (by omega) (by simp; omega)
    refine Ev.step (f := fun k => _) (fun k => by rw [laws_heldIntSS.l0]) (ifp (by simp [mkAll]; omega) (ifp (by omega) ?_))
    rw [mkAll, rdL_mid, w64 _ (by omega)]
    refine Ev.bind (heldIntS x.length (by omega) a (by omega)) (ifn (by omega) ?_)
    rw [tot_cons]
    simp only [List.append_assoc, List.singleton_append, List.length_append, List.length_singleton] at e
    refine evEq (by simpa using e) (by simp; omega)
theorem heldIntSS (xs : List (List Int)) (h : tot xs ≤ 100000000) (h2 : xs.length ≤ 1000000) : Ev (fun k => laws_heldIntSS.f k (mkAll 1 xs) 1) (1 + tot xs) := heldIntSS_l xs [] 1 (by omega) (by omega) (by simpa using h2)
theorem eqIntSS_l (rest : List (List Int)) : ∀ (pre : List (List Int)), (∀ x ∈ rest, x.length ≤ 1000000) → pre.length + rest.length ≤ 1000000 → Ev (fun k => laws_eqIntSS.l0 k (pre ++ rest) (pre ++ rest) (pre.length : Int)) true := by
  induction rest with
  | nil =>
    intro pre _ _
    exact Ev.step (f := fun k => _) (fun k => by rw [laws_eqIntSS.l0]) (ifn (by simp) now)
  | cons x xs ih =>
    intro pre h1 h2
    simp only [List.length_cons] at h2
    have e := ih (pre ++ [x]) (fun y hy => h1 y (List.mem_cons_of_mem _ hy)) (by simp; omega)
    refine Ev.step (f := fun k => _) (fun k => by rw [laws_eqIntSS.l0]) (ifp (by simp; omega) (ifp (by omega) (ifp (by simp; omega) ?_)))
    rw [rdL_mid, w64 _ (by omega)]
    refine Ev.bind (eqIntS x (by have := h1 x (List.mem_cons_self ..); omega)) (ifp rfl ?_)
    simpa using e
theorem eqIntSS (xs : List (List Int)) (h1 : ∀ x ∈ xs, x.length ≤ 1000000) (h2 : xs.length ≤ 1000000) : Ev (fun k => laws_eqIntSS.f k xs xs) true := by
  unfold laws_eqIntSS.f
  exact ifp rfl (eqIntSS_l xs [] h1 (by simpa using h2))
end Go.Proofs.Ytlkbphhmahipdaa.Pr
namespace Go.Proofs.Ytlkbphhmahipdaa.Pure
open Go.RowKit Go.Proofs.Ytlkbphhmahipdaa.P Go.Proofs.Ytlkbphhmahipdaa.Pr Go.Proofs.Ytlkbphhmahipdaa.E Go.Proofs.YtlkbphhmahipdaaW.PrintWords
theorem FnExactPairsLeft : laws_FnExactPairsLeft.Pure := by
  intro n talk _ _
  refine Ev.rounds ?_
  unfold laws_FnExactPairsLeft.f
  by_cases hs : talk.size ≤ 1048576
  · refine ifp hs ?_
    have hb := rows_bd n talk
    generalize impl_PairsLeft.rows n talk = v at hb ⊢
    have h2 : ∀ x ∈ v, x.length = 2 := fun x hx => by obtain ⟨a, b, rfl, _⟩ := hb.2 x hx; rfl
    have ht : tot v ≤ 100000000 := by
      have := tot_two v h2
      unfold tot
      omega
    obtain ⟨K1, e1⟩ := taTalk talk hs
    obtain ⟨K2, e3⟩ := eqIntSS v (fun x hx => by have := h2 x hx; omega) (by omega)
    obtain ⟨K5, e6⟩ := markIntSS v ht
    obtain ⟨K6, e7⟩ := heldIntSS v ht (by omega)
    refine ⟨K1 + K2 + K5 + K6, fun k hk => ?_⟩
    exact if_pos ⟨e1 k (by omega), e3 k (by omega), ⟨_, e6 k (by omega), by show (0 : Int) ≤ 1 + _; omega, e7 k (by omega), mkAll_len _ _⟩⟩
  · exact ifn hs now
end Go.Proofs.Ytlkbphhmahipdaa.Pure
