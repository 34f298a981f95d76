/- The program's NextStatements tells what the reference's tells, for every limit and talk, and its row is its own. No condition. -/
import Derived.Test.YtlkbphhmahipdaaPx35
import Derived.Test.YtlkbphhmahipdaaNexts
import Derived.Test.YtlkbphhmahipdaaPx1
import Derived.Test.YtlkbphhmahipdaaPxHimplqisTalk
import Derived.Test.YtlkbphhmahipdaaEv
import Derived.Test.YtlkbphhmahipdaaPx34
namespace Go.Proofs.Ytlkbphhmahipdaa.Pr
open Go.RowKit Go.Proofs.Ytlkbphhmahipdaa.P Go.Proofs.YtlkbphhmahipdaaW.PrintWords Go.Proofs.Ytlkbphhmahipdaa.E
theorem taWho_same (a : ByteArray) : spec_taWho.f a = impl_isWho.f a := rfl
theorem taTalk_l (talk : ByteArray) (m : Nat) (hm : talk.size = 2 * m) (hs : m ≤ 12) (n : Nat) : ∀ j : Nat, j ≤ m → m - j ≤ n → Ev (fun k => spec_taTalk.l0 k talk (2 * (j : Int))) (((List.range m).drop j).all (impl_isTalk.one talk)) := by
  induction n with
  | zero =>
    intro j h1 h2
    obtain rfl : j = m := by omega
    exact Ev.step (f := fun k => _) (fun k => by rw [spec_taTalk.l0]) (ifn (by omega) (evEq now (by rw [List.drop_eq_nil_of_le (by simp)]; rfl)))
  | succ n ih =>
    intro j h1 h2
    by_cases hj : j < m
    · have hw := impl_isTalk.who talk (2 * j) (by omega)
      have e1 : wrap64 (2 * (j : Int) + 1) = 2 * (j : Int) + 1 := by unfold wrap64; omega
      have e2 : wrap64 (2 * (j : Int) + 2) = 2 * ((j + 1 : Nat) : Int) := by unfold wrap64; omega
      have e3 : (2 * (j : Int)).toNat = 2 * j := by omega
      have e4 : (2 * (j : Int) + 1).toNat = 2 * j + 1 := by omega
      have hd : (List.range m).drop j = j :: (List.range m).drop (j + 1) := by rw [List.drop_eq_getElem_cons (by simpa using hj)]; simp
      have e5 : ((2 * j : Nat) : Int) = 2 * (j : Int) := by omega
      rw [e5] at hw
      rw [hd, List.all_cons]
      have ihn := ih (j + 1) (by omega) (by omega)
      refine Ev.step (f := fun k => _) (fun k => by rw [spec_taTalk.l0]) (ifp (by omega) (ifp (by omega) ?_))
      rw [e1, e2, e3, e4]
      refine ifp (by omega) (ifp (by omega) (call (b := _) ((taWho_same _).trans hw) ?_))
      generalize ((List.range m).drop (j + 1)).all (impl_isTalk.one talk) = r at ihn
      unfold impl_isTalk.one
      by_cases hb : (decide (bt talk (2 * (j : Int)) = 115) || decide (bt talk (2 * (j : Int)) = 112)) = true
      · rw [hb]
        refine ifp rfl (ifp (by omega) (ifp (by omega) ?_))
        by_cases c1 : bt talk (2 * (j : Int) + 1) = 45
        · exact ifp c1 (evEq ihn (by simp [c1]))
        · refine ifn c1 ?_
          by_cases c2 : bt talk (2 * (j : Int) + 1) = 43
          · exact ifp c2 (evEq ihn (by simp [c2]))
          · refine ifn c2 ?_
            by_cases c3 : bt talk (2 * (j : Int) + 1) = 33
            · exact ifp c3 (evEq ihn (by simp [c3]))
            · exact ifn c3 (evEq now (by simp [c1, c2, c3]))
      · rw [Bool.not_eq_true] at hb
        rw [hb]
        exact ifn (by simp) (evEq now (by simp))
    · obtain rfl : j = m := by omega
      exact Ev.step (f := fun k => _) (fun k => by rw [spec_taTalk.l0]) (ifn (by omega) (evEq now (by rw [List.drop_eq_nil_of_le (by simp)]; rfl)))
theorem taTalk (talk : ByteArray) (h : talk.size ≤ 1048576) : Ev (fun k => spec_taTalk.f k talk) (impl_isTalk.ok talk) := by
  unfold spec_taTalk.f
  by_cases h1 : talk.size % 2 = 0
  · refine ifn (by omega) ?_
    by_cases h2 : talk.size ≤ 24
    · have hl := taTalk_l talk (talk.size / 2) (by omega) (by omega) _ 0 (Nat.zero_le _) (Nat.le_refl _)
      refine Ev.step (f := fun k => _) (fun k => by rw [spec_taTalk.j0]) (ifn (by simp; omega) ?_)
      refine evEq hl ?_
      simp [impl_isTalk.ok, h1, h2]
    · refine Ev.step (f := fun k => _) (fun k => by rw [spec_taTalk.j0]) (ifp (by simp; omega) (evEq now ?_))
      simp [impl_isTalk.ok, h2]
  · refine ifp (by omega) (Ev.step (f := fun k => _) (fun k => by rw [spec_taTalk.j0]) (ifp rfl (evEq now ?_)))
    simp [impl_isTalk.ok, h1]
end Go.Proofs.Ytlkbphhmahipdaa.Pr
namespace Go.Proofs.Ytlkbphhmahipdaa.Pr
open Go.RowKit Go.Proofs.Ytlkbphhmahipdaa.P Go.Proofs.YtlkbphhmahipdaaW.PrintWords Go.Proofs.Ytlkbphhmahipdaa.E
theorem nums_size (c : Int) : (strOfNums [c]).size = 1 := rfl
theorem markText_l (d : Nat) : ∀ (x : Int) (t : ByteArray), 0 ≤ x → x < 10 ^ d → x ≤ 1000000000000000 → t.size + d ≤ 1000 → ∃ r, Ev (fun k => laws_markText.l0 k x t) r := by
  induction d with
  | zero =>
    intro x t h0 h1 _ h2
    exact ⟨_, Ev.step (f := fun k => _) (fun k => by rw [laws_markText.l0]) (ifn (by omega) (ifp (by omega) now))⟩
  | succ d ih =>
    intro x t h0 h1 h15 h2
    by_cases hx : 0 < x
    · have hp : (10 : Int) ^ (d + 1) = 10 * 10 ^ d := by rw [Int.pow_succ, Int.mul_comm]
      have e1 : wrap64 (Int.tdiv x 10) = x / 10 := by
        rw [Int.tdiv_eq_ediv_of_nonneg h0]
        unfold wrap64
        omega
      have hs : ∀ c : Int, (strOfNums [c] ++ t).size = 1 + t.size := fun c => by rw [ByteArray.size_append, nums_size]
      obtain ⟨r, hr⟩ := ih (x / 10) (strOfNums [(wrap64 (48 + (Int.tmod x 10))) % 256] ++ t) (by omega) (by omega) (by omega) (by rw [hs]; omega)
      refine ⟨r, Ev.step (f := fun k => _) (fun k => by rw [laws_markText.l0]) (ifp (by omega) (call (F := fun k y => if (strOfNums y).size + t.size ≤ 9223372036854775807 then (laws_markText.l0 k (wrap64 (Int.tdiv x 10)) ((strOfNums y) ++ t)) else none) rfl (ifp (by rw [nums_size]; omega) ?_)))⟩
      rw [e1]
      exact hr
    · exact ⟨_, Ev.step (f := fun k => _) (fun k => by rw [laws_markText.l0]) (ifn (by omega) (ifp (by omega) now))⟩
theorem markText_ex (x : Int) (h : 0 < x ∧ x < 1000000) : ∃ r, Ev (fun k => laws_markText.f k x) r := by
  obtain ⟨r, hr⟩ := markText_l 6 x ⟨#[]⟩ (by omega) (by simpa using h.2) (by omega) (by decide)
  refine ⟨r, ?_⟩
  unfold laws_markText.f
  exact ifn (by omega) hr
open Classical in
/-- The text of a mark. -/
noncomputable def mt (x : Int) : ByteArray := if h : ∃ r, Ev (fun k => laws_markText.f k x) r then h.choose else ByteArray.empty
theorem mt_ev (x : Int) (h : 0 < x ∧ x < 1000000) : Ev (fun k => laws_markText.f k x) (mt x) := by
  have he := markText_ex x h
  unfold mt
  rw [dif_pos he]
  exact he.choose_spec
noncomputable def marksT (n : Nat) : List ByteArray := (List.range n).map fun i : Nat => mt (1 + (i : Int))
theorem marksT_len (n : Nat) : (marksT n).length = n := by simp [marksT]
theorem marksT_get (n i : Nat) (h : i < n) : rdOf ByteArray.empty (marksT n) (i : Int) = mt (1 + (i : Int)) := by simp [rdOf, marksT, List.getD_eq_getElem?_getD, h]
theorem eqStringS_l (l : List ByteArray) (hl : l.length ≤ 65536) (n : Nat) : ∀ i : Nat, i ≤ l.length → l.length - i ≤ n → Ev (fun k => laws_eqStringS.l0 k l l (i : Int)) true := by
  induction n with
  | zero =>
    intro i h1 h2
    exact Ev.step (f := fun k => _) (fun k => by rw [laws_eqStringS.l0]) (ifn (by omega) now)
  | succ n ih =>
    intro i h1 h2
    by_cases hi : i < l.length
    · refine Ev.step (f := fun k => _) (fun k => by rw [laws_eqStringS.l0]) (ifp (by omega) (ifp (by omega) (ifp (by omega) (ifp rfl ?_))))
      rw [w64 _ (by omega)]
      exact ih (i + 1) (by omega) (by omega)
    · exact Ev.step (f := fun k => _) (fun k => by rw [laws_eqStringS.l0]) (ifn (by omega) now)
theorem eqStringS (l : List ByteArray) (hl : l.length ≤ 65536) : Ev (fun k => laws_eqStringS.f k l l) true := by
  unfold laws_eqStringS.f
  exact ifp rfl (eqStringS_l l hl _ 0 (by omega) (Nat.le_refl _))
theorem setT_mid (l : List ByteArray) (i : Nat) (h : i < l.length) : (marksT i ++ l.drop i).set i (mt (1 + (i : Int))) = marksT (i + 1) ++ l.drop (i + 1) := by
  rw [List.set_append_right _ _ (by rw [marksT_len]; exact Nat.le_refl _), marksT_len, Nat.sub_self, List.drop_eq_getElem_cons h, List.set_cons_zero]
  simp [marksT, List.range_succ]
theorem markStringS_l (l : List ByteArray) (hl : l.length ≤ 65536) (n : Nat) : ∀ i : Nat, i ≤ l.length → l.length - i ≤ n →
    Ev (fun k => laws_markStringS.l0 k (marksT i ++ l.drop i) (1 + (i : Int)) (i : Int)) (1 + (l.length : Int), marksT l.length) := by
  have hlen : ∀ i, i ≤ l.length → (marksT i ++ l.drop i).length = l.length := fun i h => by rw [List.length_append, marksT_len, List.length_drop]; omega
  have stop : Ev (fun k => laws_markStringS.l0 k (marksT l.length ++ l.drop l.length) (1 + (l.length : Int)) (l.length : Int)) (1 + (l.length : Int), marksT l.length) := by
    have h := hlen l.length (Nat.le_refl _)
    refine Ev.step (f := fun k => _) (fun k => by rw [laws_markStringS.l0]) (ifn (by omega) (evEq now ?_))
    rw [List.drop_length, List.append_nil]
  induction n with
  | zero =>
    intro i h1 h2
    obtain rfl : i = l.length := by omega
    exact stop
  | succ n ih =>
    intro i h1 h2
    by_cases hi : i < l.length
    · have h := hlen i h1
      have := ih (i + 1) (by omega) (by omega)
      rw [show ((i + 1 : Nat) : Int) = (i : Int) + 1 from rfl, ← Int.add_assoc] at this
      refine Ev.step (f := fun k => _) (fun k => by rw [laws_markStringS.l0]) (ifp (by omega) ?_)
      first
        | (refine Ev.bind (mt_ev (1 + (i : Int)) (by omega)) (ifp (by omega) ?_)
           rw [w64 (1 + (i : Int) + 1) (by omega), w64 ((i : Int) + 1) (by omega), Int.toNat_natCast, setT_mid l i hi]
           exact this)
        | (refine ifp (by omega) (Ev.bind (mt_ev (1 + (i : Int)) (by omega)) ?_)
           rw [w64 (1 + (i : Int) + 1) (by omega), w64 ((i : Int) + 1) (by omega), Int.toNat_natCast, setT_mid l i hi]
           exact this)
    · obtain rfl : i = l.length := by omega
      exact stop
theorem markStringS (l : List ByteArray) (hl : l.length ≤ 65536) : Ev (fun k => laws_markStringS.f k l 1) (1 + (l.length : Int), marksT l.length) := by
  have := markStringS_l l hl _ 0 (by omega) (Nat.le_refl _)
  simpa [marksT, laws_markStringS.f] using this
theorem heldStringS_l (N : Nat) (hl : N ≤ 65536) (n : Nat) : ∀ i : Nat, i ≤ N → N - i ≤ n → Ev (fun k => laws_heldStringS.l0 k (marksT N) (1 + (i : Int)) (i : Int)) (1 + (N : Int)) := by
  have stop : Ev (fun k => laws_heldStringS.l0 k (marksT N) (1 + (N : Int)) (N : Int)) (1 + (N : Int)) :=
    Ev.step (f := fun k => _) (fun k => by rw [laws_heldStringS.l0]) (ifn (by rw [marksT_len]; omega) now)
  induction n with
  | zero =>
    intro i h1 h2
    obtain rfl : i = N := by omega
    exact stop
  | succ n ih =>
    intro i h1 h2
    by_cases hi : i < N
    · have := ih (i + 1) (by omega) (by omega)
      rw [show ((i + 1 : Nat) : Int) = (i : Int) + 1 from rfl, ← Int.add_assoc] at this
      have hg := marksT_get N i hi
      refine Ev.step (f := fun k => _) (fun k => by rw [laws_heldStringS.l0]) (ifp (by rw [marksT_len]; omega) ?_)
      first
        | (refine ifp (by omega) (Ev.bind (mt_ev (1 + (i : Int)) (by omega)) (ifp (by rw [hg]) ?_))
           rw [w64 (1 + (i : Int) + 1) (by omega), w64 ((i : Int) + 1) (by omega)]
           exact this)
        | (refine Ev.bind (mt_ev (1 + (i : Int)) (by omega)) (ifp (by omega) (ifp (by rw [hg]) ?_))
           rw [w64 (1 + (i : Int) + 1) (by omega), w64 ((i : Int) + 1) (by omega)]
           exact this)
    · obtain rfl : i = N := by omega
      exact stop
theorem heldStringS (N : Nat) (hl : N ≤ 65536) : Ev (fun k => laws_heldStringS.f k (marksT N) 1) (1 + (N : Int)) := by
  have := heldStringS_l N hl _ 0 (by omega) (Nat.le_refl _)
  simpa [laws_heldStringS.f] using this
end Go.Proofs.Ytlkbphhmahipdaa.Pr
namespace Go.Proofs.Ytlkbphhmahipdaa.Pure
open Go.RowKit Go.Proofs.Ytlkbphhmahipdaa.P Go.Proofs.Ytlkbphhmahipdaa.Pr Go.Proofs.Ytlkbphhmahipdaa.E Go.Proofs.YtlkbphhmahipdaaW.PrintWords
theorem FnExactNextStatements : laws_FnExactNextStatements.Pure := by
  intro n talk _ _
  refine Ev.rounds ?_
  unfold laws_FnExactNextStatements.f
  by_cases hs : talk.size ≤ 1048576
  · refine ifn (by omega) ?_
    have e1 : Ev (fun k => spec_NextStatements.f k n talk) ((if impl_PairsLeft.ok n talk = true then Nx.next (impl_PairsLeft.rows n talk) 6 else []), impl_PairsLeft.ok n talk) := by
      obtain ⟨K, h⟩ := taTalk talk hs
      refine ⟨K, fun k hk => ?_⟩
      unfold spec_NextStatements.f
      exact if_pos (h k hk)
    have e2 : Ev (fun k => impl_NextStatements.f n talk) ((if impl_PairsLeft.ok n talk = true then Nx.next (impl_PairsLeft.rows n talk) 6 else []), impl_PairsLeft.ok n talk) := ⟨0, fun k _ => by unfold impl_NextStatements.f; exact if_pos hs⟩
    have hv : (if impl_PairsLeft.ok n talk = true then Nx.next (impl_PairsLeft.rows n talk) 6 else []).length ≤ 6 := by
      split
      · exact Nx.next_len _ _
      · exact Nat.zero_le _
    generalize (if impl_PairsLeft.ok n talk = true then Nx.next (impl_PairsLeft.rows n talk) 6 else []) = v at hv e1 e2
    generalize impl_PairsLeft.ok n talk = q at e1 e2
    refine Ev.bind e1 (Ev.bind e2 (Ev.bind (eqStringS v (by omega)) (ifp rfl ?_)))
    refine Ev.step (f := fun k => _) (fun k => by rw [laws_FnExactNextStatements.j0]) (ifn (by simp) ?_)
    refine Ev.bind (markStringS v (by omega)) (Ev.bind (heldStringS v.length (by omega)) (ifn (by omega) (ifp rfl ?_)))
    refine Ev.bind e2 (Ev.bind (eqStringS v (by omega)) (ifp rfl ?_))
    refine Ev.step (f := fun k => _) (fun k => by rw [laws_FnExactNextStatements.j1]) (ifn (by simp) ?_)
    exact Ev.bind (heldStringS v.length (by omega)) (ifn (by omega) (ifp rfl now))
  · exact ifp (by omega) now
end Go.Proofs.Ytlkbphhmahipdaa.Pure
