/- What the law on talks and what they leave asks: shown for all bytes. No condition. -/
import Derived.Test.YtlkbphhmahipdaaPxHlawsqFnTalksLeave
import Derived.Test.YtlkbphhmahipdaaF2
import Derived.Test.YtlkbphhmahipdaaF3
import Derived.Test.YtlkbphhmahipdaaF5
import Derived.Test.YtlkbphhmahipdaaF6
import Derived.Test.YtlkbphhmahipdaaF4
import Derived.Test.YtlkbphhmahipdaaPx31
import Derived.Test.YtlkbphhmahipdaaF0
import Derived.Test.YtlkbphhmahipdaaEv
import Derived.Test.YtlkbphhmahipdaaAl
import Derived.Test.YtlkbphhmahipdaaNx
import Derived.WalkSmall
namespace Go.Proofs.Ytlkbphhmahipdaa.Pr
open Go.RowKit Go.Proofs.Ytlkbphhmahipdaa.P Go.Proofs.YtlkbphhmahipdaaW.PrintWords Go.Proofs.Ytlkbphhmahipdaa.E
theorem taWho_same (a : ByteArray) : spec_taWho.f a = impl_isWho.f a := rfl
theorem taTalk_l (talk : ByteArray) (m : Nat) (hm : talk.size = 2 * m) (hs : m ≤ 12) (n : Nat) : ∀ j : Nat, j ≤ m → m - j ≤ n → Ev (fun k => spec_taTalk.l0 k talk (2 * (j : Int))) (((List.range m).drop j).all (impl_isTalk.one talk)) := by
  induction n with
  | zero =>
    intro j h1 h2
    obtain rfl : j = m := by omega
    exact Ev.step (f := fun k => _) (fun k => by rw [spec_taTalk.l0]) (ifn (by omega) (evEq now (by rw [List.drop_eq_nil_of_le (by simp)]; rfl)))
  | succ n ih =>
    intro j h1 h2
    by_cases hj : j < m
    · have hw := impl_isTalk.who talk (2 * j) (by omega)
      have e1 : wrap64 (2 * (j : Int) + 1) = 2 * (j : Int) + 1 := by unfold wrap64; omega
      have e2 : wrap64 (2 * (j : Int) + 2) = 2 * ((j + 1 : Nat) : Int) := by unfold wrap64; omega
      have e3 : (2 * (j : Int)).toNat = 2 * j := by omega
      have e4 : (2 * (j : Int) + 1).toNat = 2 * j + 1 := by omega
      have hd : (List.range m).drop j = j :: (List.range m).drop (j + 1) := by rw [List.drop_eq_getElem_cons (by simpa using hj)]; simp
      have e5 : ((2 * j : Nat) : Int) = 2 * (j : Int) := by omega
      rw [e5] at hw
      rw [hd, List.all_cons]
      have ihn := ih (j + 1) (by omega) (by omega)
      refine Ev.step (f := fun k => _) (fun k => by rw [spec_taTalk.l0]) (ifp (by omega) (ifp (by omega) ?_))
      rw [e1, e2, e3, e4]
      refine ifp (by omega) (ifp (by omega) (call (b := _) ((taWho_same _).trans hw) ?_))
      generalize ((List.range m).drop (j + 1)).all (impl_isTalk.one talk) = r at ihn
      unfold impl_isTalk.one
      by_cases hb : (decide (bt talk (2 * (j : Int)) = 115) || decide (bt talk (2 * (j : Int)) = 112)) = true
      · rw [hb]
        refine ifp rfl (ifp (by omega) (ifp (by omega) ?_))
        by_cases c1 : bt talk (2 * (j : Int) + 1) = 45
        · exact ifp c1 (evEq ihn (by simp [c1]))
        · refine ifn c1 ?_
          by_cases c2 : bt talk (2 * (j : Int) + 1) = 43
          · exact ifp c2 (evEq ihn (by simp [c2]))
          · refine ifn c2 ?_
            by_cases c3 : bt talk (2 * (j : Int) + 1) = 33
            · exact ifp c3 (evEq ihn (by simp [c3]))
            · exact ifn c3 (evEq now (by simp [c1, c2, c3]))
      · rw [Bool.not_eq_true] at hb
        rw [hb]
        exact ifn (by simp) (evEq now (by simp))
    · obtain rfl : j = m := by omega
      exact Ev.step (f := fun k => _) (fun k => by rw [spec_taTalk.l0]) (ifn (by omega) (evEq now (by rw [List.drop_eq_nil_of_le (by simp)]; rfl)))
theorem taTalk (talk : ByteArray) (h : talk.size ≤ 1048576) : Ev (fun k => spec_taTalk.f k talk) (impl_isTalk.ok talk) := by
  unfold spec_taTalk.f
  by_cases h1 : talk.size % 2 = 0
  · refine ifn (by omega) ?_
    by_cases h2 : talk.size ≤ 24
    · have hl := taTalk_l talk (talk.size / 2) (by omega) (by omega) _ 0 (Nat.zero_le _) (Nat.le_refl _)
      refine Ev.step (f := fun k => _) (fun k => by rw [spec_taTalk.j0]) (ifn (by simp; omega) ?_)
      refine evEq hl ?_
      simp [impl_isTalk.ok, h1, h2]
    · refine Ev.step (f := fun k => _) (fun k => by rw [spec_taTalk.j0]) (ifp (by simp; omega) (evEq now ?_))
      simp [impl_isTalk.ok, h2]
  · refine ifp (by omega) (Ev.step (f := fun k => _) (fun k => by rw [spec_taTalk.j0]) (ifp rfl (evEq now ?_)))
    simp [impl_isTalk.ok, h1]
end Go.Proofs.Ytlkbphhmahipdaa.Pr
namespace Go.Proofs.Ytlkbphhmahipdaa.Pr
open Go.RowKit Go.Proofs.Ytlkbphhmahipdaa.P Go.Proofs.YtlkbphhmahipdaaW.PrintWords Go.Proofs.Ytlkbphhmahipdaa.E
theorem rest_bd (n : Nat) (hn : n ≤ 40) (sp : Nat → Bool) (wt : Nat → Int) (j : Nat) : (impl_left.rest n sp wt j).length ≤ 2000 ∧ ∀ x ∈ impl_left.rest n sp wt j, ∃ a b : Int, x = [a, b] ∧ 1 ≤ a ∧ a ≤ b ∧ b ≤ (n : Int) := by
  induction j with
  | zero =>
    refine ⟨?_, fun x hx => impl_left.all_mem _ n x hx⟩
    have h := impl_left.all_len (fun _ _ => true) n n
    have : n * n ≤ 40 * 40 := Nat.mul_le_mul hn hn
    show (impl_pairsThat.all (fun _ _ => true) n n).length ≤ 2000
    omega
  | succ j ih =>
    refine ⟨Nat.le_trans (List.length_filter_le _ _) ih.1, fun x hx => ih.2 x (List.mem_filter.1 hx).1⟩
theorem rows_bd (n : Int) (talk : ByteArray) : (impl_PairsLeft.rows n talk).length ≤ 2000 ∧ ∀ x ∈ impl_PairsLeft.rows n talk, ∃ a b : Int, x = [a, b] ∧ 1 ≤ a ∧ a ≤ b ∧ b ≤ n ∧ b ≤ 40 := by
  unfold impl_PairsLeft.rows
  by_cases h : impl_PairsLeft.ok n talk = true
  · rw [if_pos h]
    have hc : (2 ≤ n ∧ n ≤ 40) ∧ impl_isTalk.ok talk = true := by simpa [impl_PairsLeft.ok] using h
    obtain ⟨m, rfl⟩ := Int.eq_ofNat_of_zero_le (show 0 ≤ n by omega)
    have := rest_bd m (by omega) (impl_isTrue.sp talk) (impl_isTrue.wt talk) (talk.size / 2)
    refine ⟨this.1, fun x hx => ?_⟩
    obtain ⟨a, b, e, h1, h2, h3⟩ := this.2 x hx
    exact ⟨a, b, e, h1, h2, h3, by omega⟩
  · rw [if_neg h]
    exact ⟨by simp, fun x hx => by cases hx⟩
theorem tot_two (xs : List (List Int)) (h : ∀ x ∈ xs, x.length = 2) : (xs.map List.length).sum = 2 * xs.length := by
  induction xs with
  | nil => rfl
  | cons x xs ih =>
    have h1 := h x (List.mem_cons_self ..)
    have h2 := ih (fun y hy => h y (List.mem_cons_of_mem _ hy))
    simp only [List.map_cons, List.sum_cons, List.length_cons]
    omega
end Go.Proofs.Ytlkbphhmahipdaa.Pr
namespace Go.Proofs.Ytlkbphhmahipdaa.Pr
open Go.RowKit Go.Proofs.Ytlkbphhmahipdaa.P Go.Proofs.YtlkbphhmahipdaaW.PrintWords Go.Proofs.Ytlkbphhmahipdaa.E
/-- One pair comes ahead of another. -/
def Ahead (x y : List Int) : Prop := rd x 0 < rd y 0 ∨ rd x 0 = rd y 0 ∧ rd x 1 < rd y 1
theorem row_ahead (q : Int → Int → Bool) (a m : Nat) : (impl_pairsThat.row q a m).Pairwise Ahead := by
  unfold impl_pairsThat.row
  rw [List.pairwise_map]
  refine ((List.pairwise_lt_range (n := m)).filter _).imp ?_
  intro i j h
  refine .inr ⟨rfl, ?_⟩
  show (a : Int) + (i : Int) < (a : Int) + (j : Int)
  omega
theorem all_fst (q : Int → Int → Bool) (n m : Nat) : ∀ x ∈ impl_pairsThat.all q n m, rd x 0 ≤ (m : Int) := by
  intro x hx
  unfold impl_pairsThat.all at hx
  obtain ⟨i, hi, h⟩ := List.mem_flatMap.1 hx
  have hi := List.mem_range.1 hi
  obtain ⟨j, hj, rfl⟩ := impl_left.row_mem q (i + 1) (n - i) x h
  show ((i + 1 : Nat) : Int) ≤ (m : Int)
  omega
theorem all_ahead (q : Int → Int → Bool) (n m : Nat) : (impl_pairsThat.all q n m).Pairwise Ahead := by
  induction m with
  | zero => simp [impl_pairsThat.all]
  | succ m ih =>
    rw [impl_pairsThat.all_succ, List.pairwise_append]
    refine ⟨ih, row_ahead _ _ _, fun x hx y hy => .inl ?_⟩
    have h1 := all_fst q n m x hx
    obtain ⟨j, hj, rfl⟩ := impl_left.row_mem q (m + 1) (n - m) y hy
    show rd x 0 < ((m + 1 : Nat) : Int)
    omega
theorem row_true (a m : Nat) : (impl_pairsThat.row (fun _ _ => true) a m).length = m := by
  unfold impl_pairsThat.row
  rw [List.length_map, List.filter_eq_self.2 (fun _ _ => rfl), List.length_range]
theorem all_true (n : Nat) : ∀ m : Nat, m ≤ n → 2 * ((impl_pairsThat.all (fun _ _ => true) n m).length : Int) = (m : Int) * (2 * (n : Int) - (m : Int) + 1) := by
  intro m
  induction m with
  | zero => intro _; simp [impl_pairsThat.all]
  | succ m ih =>
    intro hm
    have h := ih (by omega)
    rw [impl_pairsThat.all_succ, List.length_append, row_true]
    have e : ((n - m : Nat) : Int) = (n : Int) - (m : Int) := by omega
    push_cast
    rw [e]
    grind
theorem pairs_len (n : Nat) : 2 * ((impl_left.pairs n).length : Int) = (n : Int) * ((n : Int) + 1) := by
  have h := all_true n n (Nat.le_refl n)
  unfold impl_left.pairs
  rw [h]
  grind
theorem rest_ahead (n : Nat) (sp : Nat → Bool) (wt : Nat → Int) (j : Nat) : (impl_left.rest n sp wt j).Pairwise Ahead := by
  induction j with
  | zero => exact all_ahead _ n n
  | succ j ih => exact ih.filter _
theorem rows_ahead (n : Int) (talk : ByteArray) : (impl_PairsLeft.rows n talk).Pairwise Ahead := by
  unfold impl_PairsLeft.rows
  split
  · exact rest_ahead _ _ _ _
  · exact List.Pairwise.nil
theorem rest_congr (n : Nat) (sp sp' : Nat → Bool) (wt wt' : Nat → Int) : ∀ m : Nat, (∀ j, j < m → sp j = sp' j ∧ wt j = wt' j) → impl_left.rest n sp wt m = impl_left.rest n sp' wt' m := by
  intro m
  induction m with
  | zero => intro _; rfl
  | succ m ih =>
    intro h
    obtain ⟨h1, h2⟩ := h m (by omega)
    show Tk.say (sp m) (wt m) _ = Tk.say (sp' m) (wt' m) _
    rw [h1, h2, ih (fun j hj => h j (by omega))]
/-- The bytes of two texts put together. -/
theorem bt_l (a b : ByteArray) (i : Nat) (h : i < a.size) : bt (a ++ b) (i : Int) = bt a (i : Int) := by
  have h2 : i < (a ++ b).size := by rw [ByteArray.size_append]; omega
  unfold bt
  simp only [Int.toNat_natCast, h, h2, dif_pos]
  rw [ByteArray.getElem_append_left h]
theorem bt_r (a b : ByteArray) (i : Nat) (h : i < b.size) : bt (a ++ b) ((a.size + i : Nat) : Int) = bt b (i : Int) := by
  have h2 : a.size + i < (a ++ b).size := by rw [ByteArray.size_append]; omega
  unfold bt
  simp only [Int.toNat_natCast, h, h2, dif_pos]
  rw [ByteArray.getElem_append_right (Nat.le_add_right _ _)]
  simp
theorem stm_sp (k : Nat) (hk : k < 6) : (bt (Nx.stm k) 0 = 115 ∧ Nx.sp k = true) ∨ (bt (Nx.stm k) 0 = 112 ∧ Nx.sp k = false) := by
  match k, hk with
  | 0, _ => exact .inl ⟨rfl, rfl⟩
  | 1, _ => exact .inl ⟨rfl, rfl⟩
  | 2, _ => exact .inl ⟨rfl, rfl⟩
  | 3, _ => exact .inr ⟨rfl, rfl⟩
  | 4, _ => exact .inr ⟨rfl, rfl⟩
  | 5, _ => exact .inr ⟨rfl, rfl⟩
theorem ok_more (talk : ByteArray) (k : Nat) (hk : k < 6) (h : impl_isTalk.ok talk = true) (hs : talk.size + 2 ≤ 24) :
    impl_isTalk.ok (talk ++ Nx.stm k) = true ∧ (talk ++ Nx.stm k).size / 2 = talk.size / 2 + 1 ∧ (∀ j, j < talk.size / 2 → impl_isTrue.sp (talk ++ Nx.stm k) j = impl_isTrue.sp talk j ∧ impl_isTrue.wt (talk ++ Nx.stm k) j = impl_isTrue.wt talk j) ∧ impl_isTrue.sp (talk ++ Nx.stm k) (talk.size / 2) = Nx.sp k ∧ impl_isTrue.wt (talk ++ Nx.stm k) (talk.size / 2) = Nx.wt k := by
  unfold impl_isTalk.ok at h
  simp only [Bool.and_eq_true, decide_eq_true_eq] at h
  obtain ⟨⟨h1, h2⟩, h3⟩ := h
  obtain ⟨p1, _, p3⟩ := Nx.parts k hk
  have hsz : (talk ++ Nx.stm k).size = talk.size + 2 := by rw [ByteArray.size_append, p1]
  have e0 : ∀ j, j < talk.size / 2 → bt (talk ++ Nx.stm k) (2 * (j : Int)) = bt talk (2 * (j : Int)) ∧ bt (talk ++ Nx.stm k) (2 * (j : Int) + 1) = bt talk (2 * (j : Int) + 1) := by
    intro j hj
    have h4 := bt_l talk (Nx.stm k) (2 * j) (by omega)
    have h5 := bt_l talk (Nx.stm k) (2 * j + 1) (by omega)
    push_cast at h4 h5
    exact ⟨h4, h5⟩
  have e1 : bt (talk ++ Nx.stm k) (2 * ((talk.size / 2 : Nat) : Int)) = bt (Nx.stm k) 0 := by
    have h4 := bt_r talk (Nx.stm k) 0 (by omega)
    have : ((talk.size + 0 : Nat) : Int) = 2 * ((talk.size / 2 : Nat) : Int) := by omega
    rw [this] at h4
    exact h4
  have e2 : bt (talk ++ Nx.stm k) (2 * ((talk.size / 2 : Nat) : Int) + 1) = bt (Nx.stm k) 1 := by
    have h4 := bt_r talk (Nx.stm k) 1 (by omega)
    have : ((talk.size + 1 : Nat) : Int) = 2 * ((talk.size / 2 : Nat) : Int) + 1 := by omega
    rw [this] at h4
    exact h4
  have e3 := stm_sp k hk
  have hd : (talk ++ Nx.stm k).size / 2 = talk.size / 2 + 1 := by omega
  refine ⟨?_, hd, fun j hj => ?_, ?_, ?_⟩
  · unfold impl_isTalk.ok
    rw [hd, List.range_succ, List.all_append]
    simp only [Bool.and_eq_true, decide_eq_true_eq]
    refine ⟨⟨by omega, by omega⟩, ?_, ?_⟩
    · rw [List.all_eq_true] at h3 ⊢
      intro j hj
      have h4 := h3 j hj
      obtain ⟨h5, h6⟩ := e0 j (List.mem_range.1 hj)
      unfold impl_isTalk.one at h4 ⊢
      rw [h5, h6]
      exact h4
    · rw [List.all_cons, List.all_nil, Bool.and_true]
      unfold impl_isTalk.one
      rw [e1, e2, p3]
      have h5 := Nx.wt_in k
      rcases e3 with ⟨h4, _⟩ | ⟨h4, _⟩ <;> rcases h5 with h5 | h5 | h5 <;> rw [h4, h5] <;> decide
  · obtain ⟨h5, h6⟩ := e0 j hj
    unfold impl_isTrue.sp impl_isTrue.wt
    rw [h5, h6]
    exact ⟨rfl, rfl⟩
  · unfold impl_isTrue.sp
    rw [e1]
    rcases e3 with ⟨h4, h5⟩ | ⟨h4, h5⟩ <;> rw [h4, h5] <;> decide
  · unfold impl_isTrue.wt
    rw [e2, p3]
/-- One more statement. -/
theorem rows_more (n : Int) (talk : ByteArray) (k : Nat) (hk : k < 6) (h : impl_PairsLeft.ok n talk = true) (hs : talk.size + 2 ≤ 24) :
    impl_PairsLeft.ok n (talk ++ Nx.stm k) = true ∧ impl_PairsLeft.rows n (talk ++ Nx.stm k) = Tk.say (Nx.sp k) (Nx.wt k) (impl_PairsLeft.rows n talk) := by
  have hc : decide (2 ≤ n ∧ n ≤ 40) = true ∧ impl_isTalk.ok talk = true := by simpa only [impl_PairsLeft.ok, Bool.and_eq_true] using h
  obtain ⟨h1, h2, h3, h4, h5⟩ := ok_more talk k hk hc.2 hs
  have h6 : impl_PairsLeft.ok n (talk ++ Nx.stm k) = true := by
    unfold impl_PairsLeft.ok
    rw [hc.1, h1]
    rfl
  refine ⟨h6, ?_⟩
  unfold impl_PairsLeft.rows
  rw [if_pos h, if_pos h6]
  unfold impl_isTrue.lft
  rw [h2]
  show Tk.say _ _ _ = _
  rw [h4, h5, rest_congr n.toNat _ (impl_isTrue.sp talk) _ (impl_isTrue.wt talk) _ h3]
theorem rows_start (n : Int) (h : impl_PairsLeft.ok n ⟨#[]⟩ = true) : 2 * ((impl_PairsLeft.rows n ⟨#[]⟩).length : Int) = n * (n + 1) := by
  have hc : (2 ≤ n ∧ n ≤ 40) ∧ impl_isTalk.ok ⟨#[]⟩ = true := by simpa only [impl_PairsLeft.ok, Bool.and_eq_true, decide_eq_true_eq] using h
  unfold impl_PairsLeft.rows
  rw [if_pos h]
  obtain ⟨m, rfl⟩ := Int.eq_ofNat_of_zero_le (show 0 ≤ n by omega)
  exact pairs_len m
/-- Those with a number that just one has. -/
def ones (s : Bool) (xs : List (List Int)) : List (List Int) := xs.filter fun x => decide (Tk.cnt s xs (Tk.tv s x) = 1)
theorem nodup_of {α : Type} (g : α → Int) : ∀ L : List α, (∀ v, L.countP (fun x => decide (g x = v)) ≤ 1) → (L.map g).Nodup
  | [], _ => by simp
  | x :: L, h => by
    rw [List.map_cons, List.nodup_cons]
    refine ⟨fun hm => ?_, nodup_of g L fun v => ?_⟩
    · obtain ⟨y, hy, e⟩ := List.mem_map.1 hm
      have h1 := h (g x)
      rw [List.countP_cons_of_pos (by simp)] at h1
      have h2 : 0 < L.countP (fun y => decide (g y = g x)) := List.countP_pos_iff.2 ⟨y, hy, by simp [e]⟩
      omega
    · have h1 := h v
      rw [List.countP_cons] at h1
      omega
theorem aln_len (s : Bool) (xs : List (List Int)) (hb : ∀ x ∈ xs, 0 ≤ Tk.tv s x ∧ Tk.tv s x < 1601) : (Al.aln s xs).length = (ones s xs).length := by
  have hn : ((ones s xs).map (Tk.tv s)).Nodup := by
    refine nodup_of _ _ fun v => ?_
    by_cases h0 : 0 < (ones s xs).countP (fun x => decide (Tk.tv s x = v))
    · obtain ⟨z, hz, e⟩ := List.countP_pos_iff.1 h0
      have e := of_decide_eq_true e
      have h1 := of_decide_eq_true (List.mem_filter.1 hz).2
      rw [e] at h1
      have h2 : (ones s xs).countP (fun x => decide (Tk.tv s x = v)) ≤ Tk.cnt s xs v := (List.filter_sublist (l := xs)).countP_le
      omega
    · omega
  have hm : ∀ x, x ∈ (ones s xs).map (Tk.tv s) ↔ x ∈ Al.alnN 1601 (Tk.cnt s xs) := by
    intro x
    rw [Al.alnN_mem, List.mem_map]
    constructor
    · rintro ⟨y, hy, rfl⟩
      obtain ⟨h1, h2⟩ := List.mem_filter.1 hy
      have := hb y h1
      exact ⟨⟨by omega, by omega⟩, of_decide_eq_true h2⟩
    · rintro ⟨_, h⟩
      have h1 : 0 < Tk.cnt s xs x := by omega
      obtain ⟨y, hy, e⟩ := List.countP_pos_iff.1 h1
      have e := of_decide_eq_true e
      exact ⟨y, List.mem_filter.2 ⟨hy, by rw [e]; exact decide_eq_true h⟩, e⟩
  have h := Al.sort_eq 1601 (Tk.cnt s xs) _ hn hm
  unfold Al.aln
  rw [← h, List.length_mergeSort, List.length_map]
theorem mem_aln (s : Bool) (xs : List (List Int)) (hb : ∀ x ∈ xs, 0 ≤ Tk.tv s x ∧ Tk.tv s x < 1601) (x : List Int) (hx : x ∈ xs) : Tk.tv s x ∈ Al.aln s xs ↔ Tk.cnt s xs (Tk.tv s x) = 1 := by
  unfold Al.aln
  rw [Al.alnN_mem]
  have := hb x hx
  exact ⟨fun h => h.2, fun h => ⟨⟨by omega, by omega⟩, h⟩⟩
theorem say_plus (s : Bool) (xs : List (List Int)) : Tk.say s 43 xs = ones s xs := by
  unfold Tk.say ones
  refine List.filter_congr fun x _ => ?_
  unfold Tk.keepSay
  rw [if_neg (by decide)]
  simp
theorem say_minus (s : Bool) (xs : List (List Int)) : (Tk.say s 45 xs).length + (ones s xs).length = xs.length := by
  unfold Tk.say ones
  rw [← List.countP_eq_length_filter, ← List.countP_eq_length_filter, List.length_eq_countP_add_countP (p := fun x => decide (Tk.cnt s xs (Tk.tv s x) = 1)), Nat.add_comm]
  congr 1
  refine List.countP_congr fun x _ => ?_
  unfold Tk.keepSay
  rw [if_neg (by decide)]
  simp
theorem say_len (s : Bool) (what : Int) (xs : List (List Int)) : (Tk.say s what xs).length ≤ xs.length := List.length_filter_le _ _
/-- What the numbers of the pairs that are left are. -/
theorem rows_tv (s : Bool) (n : Int) (talk : ByteArray) : ∀ x ∈ impl_PairsLeft.rows n talk, 0 ≤ Tk.tv s x ∧ Tk.tv s x < 1601 := by
  intro x hx
  obtain ⟨a, b, rfl, h1, h2, h3, h4⟩ := (rows_bd n talk).2 x hx
  have h5 : a ≤ 40 := by omega
  have h6 : 1 ≤ b := by omega
  have := Tk.tv_bd s (0, a, b) ⟨⟨h1, h5⟩, h6, h4⟩
  have e : Tk.vl (0, a, b) = [a, b] := rfl
  rw [e] at this
  omega
theorem has_mem (xs : List (List Int)) (x : List Int) (h : x ∈ xs) : impl_isTrue.has_ xs (rd x 0) (rd x 1) = true := List.any_eq_true.2 ⟨x, h, by simp⟩
theorem next_mem (rows : List (List Int)) (k : Nat) (hk : k < 6) : (Nx.stm k ∈ Nx.next rows 6) ↔ 0 < (Tk.say (Nx.sp k) (Nx.wt k) rows).length := by
  unfold Nx.next
  rw [List.mem_map]
  constructor
  · rintro ⟨j, hj, e⟩
    obtain ⟨h1, h2⟩ := List.mem_filter.1 hj
    have h1 := List.mem_range.1 h1
    have : j = k := by
      have e' := congrArg (fun b : ByteArray => b.data.toList) e
      match j, h1, k, hk, e' with
      | 0, _, 0, _, _ | 1, _, 1, _, _ | 2, _, 2, _, _ | 3, _, 3, _, _ | 4, _, 4, _, _ | 5, _, 5, _, _ => rfl
      | 0, _, 1, _, e | 0, _, 2, _, e | 0, _, 3, _, e | 0, _, 4, _, e | 0, _, 5, _, e => exact absurd e (by decide)
      | 1, _, 0, _, e | 1, _, 2, _, e | 1, _, 3, _, e | 1, _, 4, _, e | 1, _, 5, _, e => exact absurd e (by decide)
      | 2, _, 0, _, e | 2, _, 1, _, e | 2, _, 3, _, e | 2, _, 4, _, e | 2, _, 5, _, e => exact absurd e (by decide)
      | 3, _, 0, _, e | 3, _, 1, _, e | 3, _, 2, _, e | 3, _, 4, _, e | 3, _, 5, _, e => exact absurd e (by decide)
      | 4, _, 0, _, e | 4, _, 1, _, e | 4, _, 2, _, e | 4, _, 3, _, e | 4, _, 5, _, e => exact absurd e (by decide)
      | 5, _, 0, _, e | 5, _, 1, _, e | 5, _, 2, _, e | 5, _, 3, _, e | 5, _, 4, _, e => exact absurd e (by decide)
    subst this
    exact of_decide_eq_true h2
  · intro h
    exact ⟨k, List.mem_filter.2 ⟨List.mem_range.2 hk, decide_eq_true h⟩, rfl⟩
end Go.Proofs.Ytlkbphhmahipdaa.Pr
namespace Go.Proofs.Ytlkbphhmahipdaa.Pr
open Go.RowKit Go.Proofs.Ytlkbphhmahipdaa.P Go.Proofs.YtlkbphhmahipdaaW.PrintWords Go.Proofs.Ytlkbphhmahipdaa.E
theorem rdI (l : List Int) (i : Nat) (h : i < l.length) : rd l (i : Int) = l[i] := by simp [rd, List.getD_eq_getElem?_getD, List.getElem?_eq_getElem h]
theorem rdL (l : List (List Int)) (i : Nat) (h : i < l.length) : rd_L1 l (i : Int) = l[i] := by simp [rd_L1, List.getD_eq_getElem?_getD, List.getElem?_eq_getElem h]
theorem gSame_l (l : List Int) (hl : l.length ≤ 1048576) (n : Nat) : ∀ i : Nat, i ≤ l.length → l.length - i ≤ n → Ev (fun k => laws_gSame.l0 k l l (l.length : Int) (i : Int)) true := by
  induction n with
  | zero =>
    intro i h1 h2
    exact Ev.step (f := fun k => _) (fun k => by rw [laws_gSame.l0]) (ifn (by omega) now)
  | succ n ih =>
    intro i h1 h2
    by_cases hi : i < l.length
    · refine Ev.step (f := fun k => _) (fun k => by rw [laws_gSame.l0]) (ifp (by omega) (ifp (by omega) (ifp (by omega) (ifp (by omega) (ifp rfl ?_)))))
      rw [w64 _ (by omega)]
      exact ih (i + 1) (by omega) (by omega)
    · exact Ev.step (f := fun k => _) (fun k => by rw [laws_gSame.l0]) (ifn (by omega) now)
theorem gSame (l : List Int) (hl : l.length ≤ 1048576) : Ev (fun k => laws_gSame.f k l l) true := by
  unfold laws_gSame.f
  exact ifp rfl (gSame_l l hl _ 0 (by omega) (Nat.le_refl _))
theorem gTexts_l (l : List ByteArray) (hl : l.length ≤ 1048576) (n : Nat) : ∀ i : Nat, i ≤ l.length → l.length - i ≤ n → Ev (fun k => laws_gTexts.l0 k l l (l.length : Int) (i : Int)) true := by
  induction n with
  | zero =>
    intro i h1 h2
    exact Ev.step (f := fun k => _) (fun k => by rw [laws_gTexts.l0]) (ifn (by omega) now)
  | succ n ih =>
    intro i h1 h2
    by_cases hi : i < l.length
    · refine Ev.step (f := fun k => _) (fun k => by rw [laws_gTexts.l0]) (ifp (by omega) (ifp (by omega) (ifp (by omega) (ifp (by omega) (ifp rfl ?_)))))
      rw [w64 _ (by omega)]
      exact ih (i + 1) (by omega) (by omega)
    · exact Ev.step (f := fun k => _) (fun k => by rw [laws_gTexts.l0]) (ifn (by omega) now)
theorem gTexts (l : List ByteArray) (hl : l.length ≤ 1048576) : Ev (fun k => laws_gTexts.f k l l) true := by
  unfold laws_gTexts.f
  exact ifp rfl (gTexts_l l hl _ 0 (by omega) (Nat.le_refl _))
theorem gRows_l (l : List (List Int)) (hl : l.length ≤ 1048576) (h2 : ∀ x ∈ l, x.length ≤ 1048576) (n : Nat) : ∀ i : Nat, i ≤ l.length → l.length - i ≤ n → Ev (fun k => laws_gRows.l0 k l l (l.length : Int) (i : Int)) true := by
  induction n with
  | zero =>
    intro i h1 h2
    exact Ev.step (f := fun k => _) (fun k => by rw [laws_gRows.l0]) (ifn (by omega) now)
  | succ n ih =>
    intro i h1 h3
    by_cases hi : i < l.length
    · refine Ev.step (f := fun k => _) (fun k => by rw [laws_gRows.l0]) (ifp (by omega) (ifp (by omega) (ifp (by omega) (ifp (by omega) ?_))))
      rw [rdL l i hi]
      refine Ev.bind (gSame l[i] (h2 _ (List.getElem_mem hi))) (ifp rfl ?_)
      rw [w64 _ (by omega)]
      exact ih (i + 1) (by omega) (by omega)
    · exact Ev.step (f := fun k => _) (fun k => by rw [laws_gRows.l0]) (ifn (by omega) now)
theorem gRows (l : List (List Int)) (hl : l.length ≤ 1048576) (h2 : ∀ x ∈ l, x.length ≤ 1048576) : Ev (fun k => laws_gRows.f k l l) true := by
  unfold laws_gRows.f
  exact ifp rfl (gRows_l l hl h2 _ 0 (by omega) (Nat.le_refl _))
theorem gRises_l (l : List Int) (hl : l.length ≤ 1048576) (hp : l.Pairwise (· < ·)) (n : Nat) : ∀ i : Nat, 1 ≤ i → l.length - i ≤ n → i ≤ l.length + 1 → Ev (fun k => laws_gRises.l0 k l (i : Int)) true := by
  induction n with
  | zero =>
    intro i h1 h2 h3
    exact Ev.step (f := fun k => _) (fun k => by rw [laws_gRises.l0]) (ifn (by omega) now)
  | succ n ih =>
    intro i h1 h2 h3
    by_cases hi : i < l.length
    · have hlt := List.pairwise_iff_getElem.1 hp (i - 1) i (by omega) hi (by omega)
      have ei : (i : Int) - 1 = ((i - 1 : Nat) : Int) := by omega
      refine Ev.step (f := fun k => _) (fun k => by rw [laws_gRises.l0]) (ifp (by omega) ?_)
      rw [w64 ((i : Int) - 1) (by omega), ei]
      refine ifp (by omega) (ifp (by omega) (ifp (by omega) ?_))
      rw [rdI l (i - 1) (by omega), rdI l i hi]
      refine ifn (by omega) ?_
      rw [w64 _ (by omega)]
      exact ih (i + 1) (by omega) (by omega) (by omega)
    · exact Ev.step (f := fun k => _) (fun k => by rw [laws_gRises.l0]) (ifn (by omega) now)
theorem gRises (l : List Int) (hl : l.length ≤ 1048576) (hp : l.Pairwise (· < ·)) : Ev (fun k => laws_gRises.f k l) true := by
  unfold laws_gRises.f
  exact gRises_l l hl hp l.length 1 (by omega) (by omega) (by omega)
theorem gHas_l (l : List Int) (v : Int) (hl : l.length ≤ 1048576) (n : Nat) : ∀ i : Nat, i ≤ l.length → l.length - i ≤ n → Ev (fun k => laws_gHas.l0 k v l (l.length : Int) (i : Int)) (decide (v ∈ l.drop i)) := by
  have stop : ∀ i, i = l.length → Ev (fun k => laws_gHas.l0 k v l (l.length : Int) (i : Int)) (decide (v ∈ l.drop i)) := by
    rintro i rfl
    refine Ev.step (f := fun k => _) (fun k => by rw [laws_gHas.l0]) (ifn (by omega) (evEq now ?_))
    simp
  induction n with
  | zero =>
    intro i h1 h2
    exact stop i (by omega)
  | succ n ih =>
    intro i h1 h2
    by_cases hi : i < l.length
    · refine Ev.step (f := fun k => _) (fun k => by rw [laws_gHas.l0]) (ifp (by omega) (ifp (by omega) (ifp (by omega) ?_)))
      rw [rdI l i hi]
      by_cases h : l[i] = v
      · refine ifp h (evEq now ?_)
        rw [List.drop_eq_getElem_cons hi]
        simp [h]
      · refine ifn h ?_
        rw [w64 _ (by omega)]
        refine evEq (ih (i + 1) (by omega) (by omega)) ?_
        rw [List.drop_eq_getElem_cons hi]
        have h' : ¬ v = l[i] := fun e => h e.symm
        simp only [List.mem_cons, h', false_or]
    · exact stop i (by omega)
theorem gHas (l : List Int) (v : Int) (hl : l.length ≤ 1048576) : Ev (fun k => laws_gHas.f k l v) (decide (v ∈ l)) := by
  unfold laws_gHas.f
  exact gHas_l l v hl _ 0 (by omega) (Nat.le_refl _)
theorem gPairs_l (l : List (List Int)) (hl : l.length ≤ 1048576) (h2 : ∀ x ∈ l, x.length = 2) (hp : l.Pairwise Ahead) (n : Nat) : ∀ i : Nat, i ≤ l.length → l.length - i ≤ n → Ev (fun k => laws_gPairs.l0 k l l (l.length : Int) (i : Int)) true := by
  induction n with
  | zero =>
    intro i h1 h2
    exact Ev.step (f := fun k => _) (fun k => by rw [laws_gPairs.l0]) (ifn (by omega) now)
  | succ n ih =>
    intro i h1 h3
    by_cases hi : i < l.length
    · have hl2 := h2 _ (List.getElem_mem hi)
      have hnext : Ev (fun k => laws_gPairs.l0 k l l (l.length : Int) (wrap64 ((i : Int) + 1))) true := by
        rw [w64 _ (by omega)]
        exact ih (i + 1) (by omega) (by omega)
      refine Ev.step (f := fun k => _) (fun k => by rw [laws_gPairs.l0]) (ifp (by omega) (ifp (by omega) (ifp (by omega) ?_)))
      rw [rdL l i hi]
      refine ifp (by omega) ?_
      by_cases h0 : (i : Int) > 0
      · have ei : (i : Int) - 1 = ((i - 1 : Nat) : Int) := by omega
        have hj : i - 1 < l.length := by omega
        have hlj := h2 _ (List.getElem_mem hj)
        have ha : Ahead l[i - 1] l[i] := List.pairwise_iff_getElem.1 hp (i - 1) i hj hi (by omega)
        refine ifp h0 ?_
        rw [w64 ((i : Int) - 1) (by omega), ei, rdL l (i - 1) hj]
        refine ifp (by omega) (ifp (by omega) (ifp (by omega) (ifp (by omega) ?_)))
        rcases ha with h | ⟨h, h'⟩
        · refine ifn (by omega) (ifn (by omega) hnext)
        · refine ifn (by omega) (ifp h (ifp (by omega) (ifp (by omega) (ifn (by omega) hnext))))
      · exact ifn h0 hnext
    · exact Ev.step (f := fun k => _) (fun k => by rw [laws_gPairs.l0]) (ifn (by omega) now)
theorem gPairs (l : List (List Int)) (hl : l.length ≤ 1048576) (h2 : ∀ x ∈ l, x.length = 2) (hp : l.Pairwise Ahead) : Ev (fun k => laws_gPairs.f k l) true := by
  unfold laws_gPairs.f
  exact gPairs_l l hl h2 hp _ 0 (by omega) (Nat.le_refl _)
end Go.Proofs.Ytlkbphhmahipdaa.Pr
namespace Go.Proofs.Ytlkbphhmahipdaa.Pr
open Go.RowKit Go.Proofs.Ytlkbphhmahipdaa.P Go.Proofs.YtlkbphhmahipdaaW.PrintWords Go.Proofs.Ytlkbphhmahipdaa.E
section
variable (n : Int) (talk : ByteArray) (hs : talk.size ≤ 1048576)
theorem ok_iff : impl_PairsLeft.ok n talk = true ↔ (2 ≤ n ∧ n ≤ 40) ∧ impl_isTalk.ok talk = true := by simp [impl_PairsLeft.ok]
theorem rows_no (h : impl_PairsLeft.ok n talk = false) : impl_PairsLeft.rows n talk = [] := by unfold impl_PairsLeft.rows; rw [h]; rfl
theorem rows_yes (h : impl_PairsLeft.ok n talk = true) : impl_isTrue.lft n talk = impl_PairsLeft.rows n talk := by unfold impl_PairsLeft.rows; rw [h]; rfl
include hs in
theorem iLeft : impl_PairsLeft.f n talk = some (impl_PairsLeft.rows n talk, impl_PairsLeft.ok n talk) := by unfold impl_PairsLeft.f; exact if_pos hs
include hs in
theorem sLeft : Ev (fun k => spec_PairsLeft.f k n talk) (impl_PairsLeft.rows n talk, impl_PairsLeft.ok n talk) := by
  obtain ⟨K, h⟩ := taTalk talk hs
  refine ⟨K, fun k hk => ?_⟩
  unfold spec_PairsLeft.f
  exact if_pos (h k hk)
include hs in
theorem sBoth : Ev (fun k => spec_taBoth.f k n talk) (impl_PairsLeft.ok n talk) := by
  obtain ⟨K, h⟩ := taTalk talk hs
  exact ⟨K, fun k hk => spec_taBoth.told n talk k (h k hk)⟩
theorem sLft (h : impl_PairsLeft.ok n talk = true) : spec_taLeft.f n talk = some (impl_PairsLeft.rows n talk) := by
  have h2 := (ok_iff n talk).1 h
  unfold spec_taLeft.f
  rw [if_pos ⟨⟨by omega, h2.1.2⟩, h2.2⟩, rows_yes n talk h]
include hs in
theorem iCount : impl_CountLeft.f n talk = some (((impl_PairsLeft.rows n talk).length : Int), impl_PairsLeft.ok n talk) := by unfold impl_CountLeft.f; rw [iLeft n talk hs]; rfl
include hs in
theorem sCount : Ev (fun k => spec_CountLeft.f k n talk) (((impl_PairsLeft.rows n talk).length : Int), impl_PairsLeft.ok n talk) := by
  unfold spec_CountLeft.f
  refine Ev.bind (sBoth n talk hs) ?_
  cases h : impl_PairsLeft.ok n talk with
  | true => exact ifp rfl (call (sLft n talk h) now)
  | false =>
    rw [rows_no n talk h]
    exact ifn (by simp) now
/-- The first pair that is left. -/
def fst1 (R : List (List Int)) : Int := if R.length = 0 then 0 else rd (rd_L1 R 0) 0
def fst2 (R : List (List Int)) : Int := if R.length = 0 then 0 else rd (rd_L1 R 0) 1
theorem two_of (R : List (List Int)) (hp : ∀ x ∈ R, x.length = 2) (h : 0 < R.length) : (rd_L1 R 0).length = 2 := by
  have : rd_L1 R 0 = R[0] := rdL R 0 h
  rw [this]
  exact hp _ (List.getElem_mem h)
theorem rows_two : ∀ x ∈ impl_PairsLeft.rows n talk, x.length = 2 := by
  intro x hx
  obtain ⟨a, b, rfl, _⟩ := (rows_bd n talk).2 x hx
  rfl
theorem first_of (R : List (List Int)) (hp : ∀ x ∈ R, x.length = 2) :
    (if (R.length : Int) = 0 then (some ((0 : Int), (0 : Int), false)) else (if 0 < (R.length : Int) then (if 0 < ((rd_L1 R 0).length : Int) then (if 1 < ((rd_L1 R 0).length : Int) then (some (rd (rd_L1 R 0) 0, rd (rd_L1 R 0) 1, true)) else (none)) else (none)) else (none))) = some (fst1 R, fst2 R, decide (0 < (R.length : Int))) := by
  by_cases h : R.length = 0
  · rw [if_pos (by omega)]
    unfold fst1 fst2
    rw [if_pos h, if_pos h, decide_eq_false (by omega)]
  · have h2 := two_of R hp (by omega)
    rw [if_neg (by omega), if_pos (by omega), if_pos (by omega), if_pos (by omega), decide_eq_true (by omega)]
    unfold fst1 fst2
    rw [if_neg h, if_neg h]
include hs in
theorem iFirst : impl_FirstLeft.f n talk = some (fst1 (impl_PairsLeft.rows n talk), fst2 (impl_PairsLeft.rows n talk), decide (0 < ((impl_PairsLeft.rows n talk).length : Int))) := by
  unfold impl_FirstLeft.f
  rw [iLeft n talk hs, Option.bind_some]
  dsimp only
  cases h : impl_PairsLeft.ok n talk with
  | true => rw [if_pos rfl]; exact first_of _ (rows_two n talk)
  | false => rw [rows_no n talk h]; rfl
include hs in
theorem sFirst : Ev (fun k => spec_FirstLeft.f k n talk) (fst1 (impl_PairsLeft.rows n talk), fst2 (impl_PairsLeft.rows n talk), decide (0 < ((impl_PairsLeft.rows n talk).length : Int))) := by
  unfold spec_FirstLeft.f
  refine Ev.bind (sBoth n talk hs) ?_
  cases h : impl_PairsLeft.ok n talk with
  | true =>
    refine ifp rfl (call (sLft n talk h) ?_)
    rw [first_of _ (rows_two n talk)]
    exact now
  | false =>
    rw [rows_no n talk h]
    exact ifn (by simp) now
include hs in
theorem iTold : impl_IsToldByTalk.f n talk = some (impl_PairsLeft.ok n talk && (((impl_PairsLeft.rows n talk).length : Int) == 1), impl_PairsLeft.ok n talk) := by
  unfold impl_IsToldByTalk.f
  rw [iCount n talk hs, Option.bind_some]
  dsimp only
  cases h : impl_PairsLeft.ok n talk with
  | true => rw [if_pos rfl]; rfl
  | false => rw [if_neg (by simp)]; rfl
include hs in
theorem sTold : Ev (fun k => spec_IsToldByTalk.f k n talk) (impl_PairsLeft.ok n talk && (((impl_PairsLeft.rows n talk).length : Int) == 1), impl_PairsLeft.ok n talk) := by
  unfold spec_IsToldByTalk.f
  refine Ev.bind (sBoth n talk hs) ?_
  cases h : impl_PairsLeft.ok n talk with
  | true => exact ifp rfl (call (sLft n talk h) now)
  | false => exact ifn (by simp) now
include hs in
theorem iTalk : impl_IsTalk.f talk = some (impl_isTalk.ok talk) := by
  unfold impl_IsTalk.f impl_isTalk.f
  rw [if_pos hs]
  rfl
include hs in
theorem sTalk : Ev (fun k => spec_IsTalk.f k talk) (impl_isTalk.ok talk) := by
  unfold spec_IsTalk.f
  exact Ev.bind (taTalk talk hs) now
theorem isMost_f : impl_isMost.f n = some (decide (2 ≤ n ∧ n ≤ 40)) := impl_isMost.told n
theorem betw (a lo hi : Int) : impl_between.f a lo hi = some (decide (lo ≤ a ∧ a ≤ hi)) := by
  unfold impl_between.f
  by_cases h : a ≥ lo
  · rw [if_pos h]; congr 1; simp; omega
  · rw [if_neg h]; congr 1; simp; omega
include hs in
theorem iTrue (x : List Int) (h : impl_PairsLeft.ok n talk = true) (hx : x ∈ impl_PairsLeft.rows n talk) : impl_IsTrueTalk.f n (rd x 0) (rd x 1) talk = some (true, true) := by
  obtain ⟨a, b, rfl, h1, h2, h3, h4⟩ := (rows_bd n talk).2 x hx
  have hc := (ok_iff n talk).1 h
  have e0 : rd [a, b] 0 = a := rfl
  have e1 : rd [a, b] 1 = b := rfl
  have hh := has_mem _ _ hx
  rw [e0, e1] at hh ⊢
  unfold impl_IsTrueTalk.f impl_isPair.f
  rw [isMost_f, Option.bind_some, decide_eq_true hc.1, if_pos rfl, betw, Option.bind_some, decide_eq_true ⟨h1, h2⟩, if_pos rfl, betw, Option.bind_some, decide_eq_true (show 1 ≤ b ∧ b ≤ n by omega), Option.bind_some, if_pos rfl]
  unfold impl_isTalk.f
  rw [if_pos hs, Option.bind_some, if_pos hc.2]
  unfold impl_isTrue.f
  rw [if_pos ⟨⟨by omega, hc.1.2⟩, hc.2⟩, rows_yes n talk h, hh]
  rfl
end
end Go.Proofs.Ytlkbphhmahipdaa.Pr
namespace Go.Proofs.Ytlkbphhmahipdaa.Pr
open Go.RowKit Go.Proofs.Ytlkbphhmahipdaa.P Go.Proofs.YtlkbphhmahipdaaW.PrintWords Go.Proofs.YtlkbphhmahipdaaW.PrintMore Go.Proofs.Ytlkbphhmahipdaa.E
def Bytes (l : List Int) : Prop := ∀ x ∈ l, 0 ≤ x ∧ x ≤ 255
theorem and255 (E : Int) (h0 : 0 ≤ E) (h1 : E ≤ 18446744073709551615) : 0 ≤ Go.bits .and .u64 E 255 ∧ Go.bits .and .u64 E 255 ≤ 255 := by
  have h := bits_and_u64_nat E.toNat 255 (by omega) (by omega)
  rw [Int.toNat_of_nonneg h0] at h
  rw [show ((255 : Nat) : Int) = 255 from rfl] at h
  rw [h]
  have : E.toNat &&& 255 ≤ 255 := Nat.and_le_right
  omega
theorem u64_bd (x : Int) : 0 ≤ IntKind.u64.wrap x ∧ IntKind.u64.wrap x ≤ 18446744073709551615 := by
  have : IntKind.u64.wrap x = x % 18446744073709551616 := by simp [IntKind.wrap, IntKind.bits, IntKind.signed]
  omega
theorem next_some (l : List Int) (hl : Bytes l) (a s : Int) (h0 : 0 ≤ a) (h1 : a ≤ 1000000) : ∃ v s', spec_l1Cur_next.f l a s = some (v, a + 1, s') ∧ 0 ≤ v ∧ v ≤ 255 := by
  unfold spec_l1Cur_next.f
  have ew : wrap64 (a + 1) = a + 1 := w64 _ (by omega)
  rw [ew]
  by_cases h : a < (l.length : Int)
  · rw [if_pos h, if_pos h0, if_pos (by omega)]
    obtain ⟨i, rfl⟩ := Int.eq_ofNat_of_zero_le h0
    have hm : rd l (i : Int) ∈ l := by
      have : rd l (i : Int) = l[i]'(by omega) := by simp [rd, List.getD_eq_getElem?_getD, List.getElem?_eq_getElem (show i < l.length by omega)]
      rw [this]
      exact List.getElem_mem _
    have hb := hl _ hm
    refine ⟨_, _, rfl, ?_⟩
    rw [w64 _ (by omega)]
    exact hb
  · rw [if_neg h, if_neg (by omega)]
    have hb := u64_bd ((IntKind.u64.wrap (IntKind.u64.wrap (s * 6364136223846793005))) + 1442695040888963407)
    generalize IntKind.u64.wrap ((IntKind.u64.wrap (IntKind.u64.wrap (s * 6364136223846793005))) + 1442695040888963407) = E at hb ⊢
    have ha := and255 (E / 1099511627776) (by omega) (by omega)
    refine ⟨_, _, rfl, ?_⟩
    rw [w64 _ (by omega)]
    exact ha
theorem pick_some (l : List Int) (hl : Bytes l) (a s n : Int) (h0 : 0 ≤ a) (h1 : a ≤ 1000000) (hn : 1 ≤ n) (hn2 : n ≤ 200) : ∃ v a' s', spec_l1Cur_pick.f l a s n = some (v, a', s') ∧ (0 ≤ v ∧ v < n) ∧ a ≤ a' ∧ a' ≤ a + 1 := by
  unfold spec_l1Cur_pick.f
  by_cases h : n ≤ 1
  · rw [if_pos h]
    exact ⟨0, a, s, rfl, by omega, by omega, by omega⟩
  · rw [if_neg h]
    obtain ⟨v, s', e, hv⟩ := next_some l hl a s h0 h1
    rw [e, Option.bind_some, if_neg (by omega), if_neg (by omega)]
    refine ⟨_, _, _, rfl, ?_, by first | omega | (dsimp only; omega), by first | omega | (dsimp only; omega)⟩
    dsimp only
    rw [Int.tmod_eq_emod_of_nonneg hv.1]
    exact ⟨Int.emod_nonneg _ (by omega), Int.emod_lt_of_pos _ (by omega)⟩
theorem among_some (l : List Int) (hl : Bytes l) (a s : Int) (xs : List Int) (h0 : 0 ≤ a) (h1 : a ≤ 1000000) (hx : 1 ≤ xs.length) (hx2 : xs.length ≤ 200) : ∃ v a' s', spec_l1Cur_among.f l a s xs = some (v, a', s') ∧ a ≤ a' ∧ a' ≤ a + 1 := by
  unfold spec_l1Cur_among.f
  obtain ⟨v, a', s', e, hv, ha⟩ := pick_some l hl a s (xs.length : Int) h0 h1 (by omega) (by omega)
  rw [e, Option.bind_some, if_pos hv.1, if_pos hv.2]
  exact ⟨_, _, _, rfl, ha.1, ha.2⟩
theorem one_some (l : List Int) (hl : Bytes l) (a s n : Int) (h0 : 0 ≤ a) (h1 : a ≤ 1000000) (hn : 1 ≤ n) (hn2 : n ≤ 200) : ∃ v a' s', spec_l1Cur_one.f l a s n = some (v, a', s') ∧ a ≤ a' ∧ a' ≤ a + 1 := by
  unfold spec_l1Cur_one.f
  obtain ⟨v, a', s', e, hv, ha⟩ := pick_some l hl a s n h0 h1 hn hn2
  rw [e, Option.bind_some]
  exact ⟨_, _, _, rfl, ha.1, ha.2⟩
theorem of_some (l : List Int) (hl : Bytes l) (a s : Int) (xs : List ByteArray) (h0 : 0 ≤ a) (h1 : a ≤ 1000000) (hx : 1 ≤ xs.length) (hx2 : xs.length ≤ 200) (B : Nat) (hB : ∀ x ∈ xs, x.size ≤ B) : ∃ v a' s', spec_l1Cur_of.f l a s xs = some (v, a', s') ∧ v.size ≤ B ∧ a ≤ a' ∧ a' ≤ a + 1 := by
  unfold spec_l1Cur_of.f
  obtain ⟨v, a', s', e, hv, ha⟩ := pick_some l hl a s (xs.length : Int) h0 h1 (by omega) (by omega)
  rw [e, Option.bind_some, if_pos hv.1, if_pos hv.2]
  obtain ⟨i, rfl⟩ := Int.eq_ofNat_of_zero_le hv.1
  have hi : i < xs.length := by omega
  refine ⟨_, _, _, rfl, ?_, ha.1, ha.2⟩
  have : rdOf ByteArray.empty xs (i : Int) = xs[i] := by simp [rdOf, List.getD_eq_getElem?_getD, List.getElem?_eq_getElem hi]
  rw [this]
  exact hB _ (List.getElem_mem hi)
theorem limit_some (l : List Int) (hl : Bytes l) : ∃ n a s, spec_l1Cur_limit.f l 0 0 = some (n, a, s) ∧ 0 ≤ a ∧ a ≤ 10 := by
  unfold spec_l1Cur_limit.f
  obtain ⟨v, a1, s1, e1, h1, h2⟩ := one_some l hl 0 0 14 (by omega) (by omega) (by omega) (by omega)
  rw [e1, Option.bind_some]
  dsimp only
  cases v with
  | true =>
    obtain ⟨v2, a2, s2, e2, h3, h4⟩ := among_some l hl a1 s1 [1, 0, (-1), 40, 41, 4611686018427387904] (by omega) (by omega) (by decide) (by decide)
    rw [if_pos rfl, e2, Option.bind_some]
    exact ⟨_, _, _, rfl, by first | omega | (dsimp only; omega), by first | omega | (dsimp only; omega)⟩
  | false =>
    obtain ⟨v2, a2, s2, e2, _, h3, h4⟩ := pick_some l hl a1 s1 11 (by omega) (by omega) (by omega) (by omega)
    rw [if_neg (by decide), e2, Option.bind_some]
    exact ⟨_, _, _, rfl, by first | omega | (dsimp only; omega), by first | omega | (dsimp only; omega)⟩
theorem talk_l (l : List Int) (hl : Bytes l) (m : Nat) : ∀ (x : ByteArray) (c a s : Int), c ≤ (m : Int) → 0 ≤ a → a + (m : Int) ≤ 1000 → x.size + 26 * m ≤ 1000 → ∃ v a' s', Ev (fun k => spec_l1Cur_talk.l0 k x c l a s) (v, a', s') ∧ v.size ≤ 1000 := by
  induction m with
  | zero =>
    intro x c a s h1 h2 h3 h4
    exact ⟨x, a, s, Ev.step (f := fun k => _) (fun k => by rw [spec_l1Cur_talk.l0]) (ifn (by omega) now), by omega⟩
  | succ m ih =>
    intro x c a s h1 h2 h3 h4
    by_cases hc : c > 0
    · obtain ⟨v, a', s', e, hv, h5, h6⟩ := of_some l hl a s ([(⟨#[115, 45]⟩ : ByteArray), (⟨#[112, 45]⟩ : ByteArray), (⟨#[115, 45]⟩ : ByteArray), (⟨#[112, 45]⟩ : ByteArray), (⟨#[115, 43]⟩ : ByteArray), (⟨#[112, 43]⟩ : ByteArray), (⟨#[115, 33]⟩ : ByteArray), (⟨#[112, 33]⟩ : ByteArray)] : List ByteArray) (by omega) (by omega) (by decide) (by decide) 26 (by decide)
      have hw : wrap64 (c - 1) ≤ (m : Int) := by unfold wrap64; omega
      have hsz : (x ++ v).size + 26 * m ≤ 1000 := by rw [ByteArray.size_append]; omega
      obtain ⟨v2, a2, s2, h7, h8⟩ := ih (x ++ v) (wrap64 (c - 1)) a' s' hw (by omega) (by omega) hsz
      refine ⟨v2, a2, s2, Ev.step (f := fun k => _) (fun k => by rw [spec_l1Cur_talk.l0]) (ifp hc (call e (ifp (c := x.size + v.size ≤ 9223372036854775807) (by omega) h7))), h8⟩
    · exact ⟨x, a, s, Ev.step (f := fun k => _) (fun k => by rw [spec_l1Cur_talk.l0]) (ifn hc now), by omega⟩
theorem talk_some (l : List Int) (hl : Bytes l) (a s : Int) (h0 : 0 ≤ a) (h1 : a ≤ 100) : ∃ v a' s', Ev (fun k => spec_l1Cur_talk.f k l a s) (v, a', s') ∧ v.size ≤ 1000 := by
  unfold spec_l1Cur_talk.f
  obtain ⟨v, a1, s1, e1, h2, h3⟩ := one_some l hl a s 14 (by omega) (by omega) (by omega) (by omega)
  cases v with
  | true =>
    obtain ⟨x, a2, s2, e2, hx, h4, h5⟩ := of_some l hl a1 s1 ([(⟨#[115]⟩ : ByteArray), (⟨#[115, 63]⟩ : ByteArray), (⟨#[120, 45]⟩ : ByteArray), (⟨#[45, 115]⟩ : ByteArray), (⟨#[115, 45, 112, 45, 115, 45, 112, 45, 115, 45, 112, 45, 115, 45, 112, 45, 115, 45, 112, 45, 115, 45, 112, 45, 115, 45]⟩ : ByteArray), (⟨#[115, 45, 112, 45, 115, 45, 112, 45, 115, 45, 112, 45, 115, 45, 112, 45, 115, 45, 112, 45, 115, 45, 112, 45]⟩ : ByteArray)] : List ByteArray) (by omega) (by omega) (by decide) (by decide) 26 (by decide)
    exact ⟨x, a2, s2, call e1 (ifp rfl (call e2 now)), by omega⟩
  | false =>
    obtain ⟨c, a2, s2, e2, hc, h4, h5⟩ := pick_some l hl a1 s1 5 (by omega) (by omega) (by omega) (by omega)
    obtain ⟨x, a3, s3, h6, h7⟩ := talk_l l hl 5 ⟨#[]⟩ c a2 s2 (by omega) (by omega) (by omega) (by decide)
    exact ⟨x, a3, s3, call e1 (ifn (by simp) (call e2 h6)), h7⟩
theorem drawLeft (l : List Int) (hl : Bytes l) : ∃ n talk, Ev (fun k => spec_DrawPairsLeft.f k l) (n, talk) ∧ talk.size ≤ 1000 := by
  obtain ⟨n, a, s, e, h1, h2⟩ := limit_some l hl
  obtain ⟨v, a', s', h3, h4⟩ := talk_some l hl a s h1 (by omega)
  refine ⟨n, v, ?_, h4⟩
  unfold spec_DrawPairsLeft.f
  exact call e (Ev.bind h3 now)
theorem drawSum (l : List Int) (hl : Bytes l) : ∃ n v, spec_DrawPairsOfSum.f l = some (n, v) := by
  obtain ⟨n, a, s, e, h1, h2⟩ := limit_some l hl
  obtain ⟨v, a', s', e2, _⟩ := among_some l hl a s [2, 4, 5, 7, 11, 17, 80, 81, 0, (-1), 4611686018427387904] h1 (by omega) (by decide) (by decide)
  unfold spec_DrawPairsOfSum.f
  rw [e, Option.bind_some, e2, Option.bind_some]
  exact ⟨_, _, rfl⟩
theorem drawProduct (l : List Int) (hl : Bytes l) : ∃ n v, spec_DrawPairsOfProduct.f l = some (n, v) := by
  obtain ⟨n, a, s, e, h1, h2⟩ := limit_some l hl
  obtain ⟨v, a', s', e2, _⟩ := among_some l hl a s [1, 4, 6, 12, 16, 24, 36, 1600, 1601, 0, (-1), 4611686018427387904] h1 (by omega) (by decide) (by decide)
  unfold spec_DrawPairsOfProduct.f
  rw [e, Option.bind_some, e2, Option.bind_some]
  exact ⟨_, _, rfl⟩
theorem drawTalk (l : List Int) (hl : Bytes l) : ∃ s, Ev (fun k => spec_DrawIsTalk.f k l) s ∧ s.size ≤ 1000 := by
  obtain ⟨v, a', s', h3, h4⟩ := talk_some l hl 0 0 (by omega) (by omega)
  refine ⟨v, ?_, h4⟩
  unfold spec_DrawIsTalk.f
  exact Ev.bind h3 now
end Go.Proofs.Ytlkbphhmahipdaa.Pr
namespace Go.Proofs.Ytlkbphhmahipdaa.Pr
open Go.RowKit Go.Proofs.Ytlkbphhmahipdaa.P Go.Proofs.YtlkbphhmahipdaaW.PrintWords Go.Proofs.Ytlkbphhmahipdaa.E
theorem sum_rows (s : Bool) (n v : Int) : (impl_PairsOfSum.rows s n v).length ≤ 2000 ∧ (impl_PairsOfSum.rows s n v).Pairwise Ahead ∧ ∀ x ∈ impl_PairsOfSum.rows s n v, ∃ a b : Int, x = [a, b] ∧ 1 ≤ a ∧ a ≤ 40 ∧ 1 ≤ b ∧ b ≤ 40 ∧ Tk.tv s x = v ∧ b ≤ n := by
  unfold impl_PairsOfSum.rows
  by_cases h : (2 ≤ n ∧ n ≤ 40) ∧ 0 ≤ v
  · rw [if_pos h]
    obtain ⟨m, rfl⟩ := Int.eq_ofNat_of_zero_le (show 0 ≤ n by omega)
    refine ⟨?_, (all_ahead _ m m).filter _, fun x hx => ?_⟩
    · refine Nat.le_trans (List.length_filter_le _ _) ?_
      have h1 := impl_left.all_len (fun _ _ => true) m m
      have h2 : m * m ≤ 40 * 40 := Nat.mul_le_mul (by omega) (by omega)
      show (impl_pairsThat.all (fun _ _ => true) m m).length ≤ 2000
      omega
    · obtain ⟨h1, h2⟩ := List.mem_filter.1 hx
      obtain ⟨a, b, rfl, h3, h4, h5⟩ := impl_left.all_mem _ m x h1
      exact ⟨a, b, rfl, h3, by omega, by omega, by omega, of_decide_eq_true h2, h5⟩
  · rw [if_neg h]
    exact ⟨by simp, List.Pairwise.nil, fun x hx => by cases hx⟩
theorem ev_all {α : Type} (N : Nat) (A : Nat → Nat → Option α) (r : Nat → α) (h : ∀ i, i < N → Ev (A i) (r i)) : ∃ K, ∀ k, K ≤ k → ∀ i, i < N → A i k = some (r i) := by
  induction N with
  | zero => exact ⟨0, fun k _ i hi => absurd hi (Nat.not_lt_zero i)⟩
  | succ N ih =>
    obtain ⟨K, hK⟩ := ih (fun i hi => h i (by omega))
    obtain ⟨K2, hK2⟩ := h N (by omega)
    refine ⟨K + K2, fun k hk i hi => ?_⟩
    by_cases e : i = N
    · subst e; exact hK2 k (by omega)
    · exact hK k (by omega) i (by omega)
theorem countP_at {α : Type} (d : α) (p : α → Bool) : ∀ R : List α, (List.range R.length).countP (fun i => p (R.getD i d)) = R.countP p
  | [] => rfl
  | x :: R => by
    rw [List.length_cons, List.range_succ_eq_map, List.countP_cons, List.countP_map, List.countP_cons, ← countP_at d p R]
    rfl
theorem stm_inj (i j : Nat) (hi : i < 6) (hj : j < 6) (h : (Nx.stm i).toList = (Nx.stm j).toList) : i = j := by
  have h2 : (Nx.stm i).data.toList = (Nx.stm j).data.toList := by rw [ByteArray.toList_eq, ByteArray.toList_eq] at h; exact h
  match i, hi, j, hj, h2 with
  | 0, _, 0, _, _ | 1, _, 1, _, _ | 2, _, 2, _, _ | 3, _, 3, _, _ | 4, _, 4, _, _ | 5, _, 5, _, _ => rfl
  | 0, _, 1, _, e | 0, _, 2, _, e | 0, _, 3, _, e | 0, _, 4, _, e | 0, _, 5, _, e => exact absurd e (by decide)
  | 1, _, 0, _, e | 1, _, 2, _, e | 1, _, 3, _, e | 1, _, 4, _, e | 1, _, 5, _, e => exact absurd e (by decide)
  | 2, _, 0, _, e | 2, _, 1, _, e | 2, _, 3, _, e | 2, _, 4, _, e | 2, _, 5, _, e => exact absurd e (by decide)
  | 3, _, 0, _, e | 3, _, 1, _, e | 3, _, 2, _, e | 3, _, 4, _, e | 3, _, 5, _, e => exact absurd e (by decide)
  | 4, _, 0, _, e | 4, _, 1, _, e | 4, _, 2, _, e | 4, _, 3, _, e | 4, _, 5, _, e => exact absurd e (by decide)
  | 5, _, 0, _, e | 5, _, 1, _, e | 5, _, 2, _, e | 5, _, 3, _, e | 5, _, 4, _, e => exact absurd e (by decide)
theorem next_any (rows : List (List Int)) (j : Nat) (hj : j < 6) : ((Nx.next rows 6).any fun x => x.toList == (Nx.stm j).toList) = decide (0 < ((Tk.say (Nx.sp j) (Nx.wt j) rows).length : Int)) := by
  rw [Bool.eq_iff_iff, List.any_eq_true, decide_eq_true_iff]
  constructor
  · rintro ⟨x, hx, e⟩
    have e := eq_of_beq e
    have hx2 := hx
    unfold Nx.next at hx
    obtain ⟨i, hi, rfl⟩ := List.mem_map.1 hx
    have hi6 := List.mem_range.1 (List.mem_filter.1 hi).1
    obtain rfl := stm_inj i j hi6 hj e
    have := (next_mem rows i hi6).1 hx2
    omega
  · intro h
    exact ⟨Nx.stm j, (next_mem rows j hj).2 (by omega), by simp⟩
theorem nil_of (b : ByteArray) (h : b.toList = []) : b = ⟨#[]⟩ := by
  rw [ByteArray.toList_eq] at h
  cases b with
  | mk d =>
    have : d = #[] := by simpa using h
    rw [this]
end Go.Proofs.Ytlkbphhmahipdaa.Pr
namespace Go.Proofs.Ytlkbphhmahipdaa.Pure
open Go.RowKit Go.Proofs.Ytlkbphhmahipdaa.P Go.Proofs.Ytlkbphhmahipdaa.Pr Go.Proofs.Ytlkbphhmahipdaa.E Go.Proofs.YtlkbphhmahipdaaW.PrintWords
theorem FnTalksLeave : laws_FnTalksLeave.Pure := by
  intro l0 l1 _ _ w0 _ _ w1
  have hl0 : Bytes l0 := fun x hx => by have := w0 x hx; simp [Lit.wf, IntKind.min, IntKind.max, IntKind.signed, IntKind.bits] at this; omega
  have hl1 : Bytes l1 := fun x hx => by have := w1 x hx; simp [Lit.wf, IntKind.min, IntKind.max, IntKind.signed, IntKind.bits] at this; omega
  by_cases hb : laws_big.f l0 l1 = some true
  · exact ⟨0, by unfold laws_FnTalksLeave.f; exact if_pos hb⟩
  have hb2 : laws_big.f l0 l1 = some false := by
    unfold laws_big.f at hb ⊢
    by_cases h : (l0.length : Int) > 1048576
    · rw [if_pos h] at hb; exact absurd rfl hb
    · rw [if_neg h] at hb ⊢
      cases e : decide ((l1.length : Int) > (wrap64 (1048576 - (l0.length : Int)))) with
      | true => rw [e] at hb; exact absurd rfl hb
      | false => rfl
  obtain ⟨n, talk, ⟨K1, k1⟩, ht⟩ := drawLeft l0 hl0
  obtain ⟨n2, v2, k2⟩ := drawSum l1 hl1
  obtain ⟨n3, v3, k3⟩ := drawProduct l1 hl1
  obtain ⟨s, ⟨K4, k4⟩, hs4⟩ := drawTalk l1 hl1
  have hs : talk.size ≤ 1048576 := by omega
  have hs' : s.size ≤ 1048576 := by omega
  obtain ⟨K5, k5⟩ := sLeft n talk hs
  obtain ⟨K6, k6⟩ := sCount n talk hs
  obtain ⟨K7, k7⟩ := sFirst n talk hs
  obtain ⟨K8, k8⟩ := sTold n talk hs
  obtain ⟨K9, k9⟩ := taTalk talk hs
  obtain ⟨K10, k10⟩ := sTalk s hs'
  have hrb := rows_bd n talk
  have hr2 := rows_two n talk
  have hra := rows_ahead n talk
  have hrt := rows_tv true n talk
  have hrf := rows_tv false n talk
  have hlen2 : ∀ x ∈ impl_PairsLeft.rows n talk, x.length ≤ 1048576 := fun x hx => by rw [hr2 x hx]; decide
  have hS := aln_len true (impl_PairsLeft.rows n talk) hrt
  have hP := aln_len false (impl_PairsLeft.rows n talk) hrf
  have hSl : (Al.aln true (impl_PairsLeft.rows n talk)).length ≤ 1601 := Al.alnN_len _ _
  have hPl : (Al.aln false (impl_PairsLeft.rows n talk)).length ≤ 1601 := Al.alnN_len _ _
  have hX : (if impl_PairsLeft.ok n talk = true then Nx.next (impl_PairsLeft.rows n talk) 6 else []).length ≤ 6 := by
    split
    · exact Nx.next_len _ _
    · exact Nat.zero_le _
  obtain ⟨q1, q2, q3⟩ := sum_rows true n2 v2
  obtain ⟨p1, p2, p3⟩ := sum_rows false n3 v3
  have q4 : ∀ x ∈ impl_PairsOfSum.rows true n2 v2, x.length = 2 := fun x hx => by obtain ⟨a, b, rfl, _⟩ := q3 x hx; rfl
  have p4 : ∀ x ∈ impl_PairsOfSum.rows false n3 v3, x.length = 2 := fun x hx => by obtain ⟨a, b, rfl, _⟩ := p3 x hx; rfl
  obtain ⟨K11, k11⟩ := gRows (impl_PairsLeft.rows n talk) (by omega) hlen2
  obtain ⟨K12, k12⟩ := gSame (Al.aln true (impl_PairsLeft.rows n talk)) (by omega)
  obtain ⟨K13, k13⟩ := gSame (Al.aln false (impl_PairsLeft.rows n talk)) (by omega)
  obtain ⟨K14, k14⟩ := gTexts (if impl_PairsLeft.ok n talk = true then Nx.next (impl_PairsLeft.rows n talk) 6 else []) (by omega)
  obtain ⟨K15, k15⟩ := gPairs (impl_PairsLeft.rows n talk) (by omega) hr2 hra
  obtain ⟨K16, k16⟩ := gRises (Al.aln true (impl_PairsLeft.rows n talk)) (by omega) (Al.alnN_sorted _ _)
  obtain ⟨K17, k17⟩ := gRises (Al.aln false (impl_PairsLeft.rows n talk)) (by omega) (Al.alnN_sorted _ _)
  obtain ⟨K18, k18⟩ := gRows (impl_PairsOfSum.rows true n2 v2) (by omega) (fun x hx => by rw [q4 x hx]; decide)
  obtain ⟨K19, k19⟩ := gRows (impl_PairsOfSum.rows false n3 v3) (by omega) (fun x hx => by rw [p4 x hx]; decide)
  obtain ⟨K20, k20⟩ := gPairs (impl_PairsOfSum.rows true n2 v2) (by omega) q4 q2
  obtain ⟨K21, k21⟩ := gPairs (impl_PairsOfSum.rows false n3 v3) (by omega) p4 p2
  obtain ⟨K22, k22⟩ := ev_all (impl_PairsLeft.rows n talk).length (fun i k => laws_gHas.f k (Al.aln true (impl_PairsLeft.rows n talk)) (Tk.tv true ((impl_PairsLeft.rows n talk).getD i []))) (fun i => decide (Tk.tv true ((impl_PairsLeft.rows n talk).getD i []) ∈ Al.aln true (impl_PairsLeft.rows n talk))) (fun i _ => gHas _ _ (by omega))
  have hle : K1 ≤ K1 + K4 + K5 + K6 + K7 + K8 + K9 + K10 + K11 + K12 + K13 + K14 + K15 + K16 + K17 + K18 + K19 + K20 + K21 + K22 := by omega
  refine ⟨K1 + K4 + K5 + K6 + K7 + K8 + K9 + K10 + K11 + K12 + K13 + K14 + K15 + K16 + K17 + K18 + K19 + K20 + K21 + K22, ?_⟩
  unfold laws_FnTalksLeave.f
  rw [if_neg hb, if_pos]
  refine ⟨hb2, n, talk, impl_PairsLeft.ok n talk, decide (0 < ((impl_PairsLeft.rows n talk).length : Int)), impl_PairsLeft.rows n talk, Al.aln true (impl_PairsLeft.rows n talk), Al.aln false (impl_PairsLeft.rows n talk), (if impl_PairsLeft.ok n talk = true then Nx.next (impl_PairsLeft.rows n talk) 6 else []), fst1 (impl_PairsLeft.rows n talk), fst2 (impl_PairsLeft.rows n talk),
    (impl_PairsLeft.ok n talk && (((impl_PairsLeft.rows n talk).length : Int) == 1)), (fun i => decide (Tk.cnt true (impl_PairsLeft.rows n talk) (Tk.tv true ((impl_PairsLeft.rows n talk).getD i [])) = 1)), (fun j => (Tk.say (Nx.sp j) (Nx.wt j) (impl_PairsLeft.rows n talk)).length), n2, v2, n3, v3, decide ((2 ≤ n2 ∧ n2 ≤ 40) ∧ 0 ≤ v2), decide ((2 ≤ n3 ∧ n3 ≤ 40) ∧ 0 ≤ v3), impl_PairsOfSum.rows true n2 v2, impl_PairsOfSum.rows false n3 v3, s, impl_isTalk.ok s, ?_⟩
  exact {
    draw := k1 _ (by omega)
    iL := iLeft n talk hs
    sL := k5 _ (by omega)
    iC := iCount n talk hs
    sC := k6 _ (by omega)
    iF := iFirst n talk hs
    sF := k7 _ (by omega)
    iS := by unfold impl_SumsAlone.f; exact if_pos hs
    sS := by unfold spec_SumsAlone.f; exact if_pos (k9 _ (by omega))
    iP := by unfold impl_ProductsAlone.f; exact if_pos hs
    sP := by unfold spec_ProductsAlone.f; exact if_pos (k9 _ (by omega))
    iN := by unfold impl_NextStatements.f; exact if_pos hs
    sN := by unfold spec_NextStatements.f; exact if_pos (k9 _ (by omega))
    iT := iTold n talk hs
    sT := k8 _ (by omega)
    gR := k11 _ (by omega)
    gS := k12 _ (by omega)
    gP := k13 _ (by omega)
    gX := k14 _ (by omega)
    iK := fun h => by rw [iTalk talk hs, ((ok_iff n talk).1 h).2]
    ht := rfl
    hq := fun h => by rw [rows_no n talk h]; rfl
    pR := k15 _ (by omega)
    r0 := fun h => by
      have h0 : 0 < (impl_PairsLeft.rows n talk).length := by have := of_decide_eq_true h; omega
      obtain ⟨a, b, e, _⟩ := hrb.2 _ (List.getElem_mem h0)
      have e2 : rd_L1 (impl_PairsLeft.rows n talk) 0 = [a, b] := (rdL _ 0 h0).trans e
      unfold fst1 fst2
      rw [if_neg (by omega), if_neg (by omega), e2]
      rfl
    tl := fun h => by rw [h]; rfl
    uS := k16 _ (by omega)
    uP := k17 _ (by omega)
    lS := by rw [hS]; exact List.length_filter_le _ _
    lP := by rw [hP]; exact List.length_filter_le _ _
    lR := hrb.1
    n40 := fun h => ((ok_iff n talk).1 h).1
    e0 := fun h h2 => by
      have e := nil_of talk h2
      rw [e] at h ⊢
      have h3 := rows_start n h
      rw [← h3, Int.mul_tdiv_cancel_left _ (by decide)]
    row := fun h i hi => by
      have hm := List.getElem_mem hi
      obtain ⟨a, b, e, h1, h2, h3, h4⟩ := hrb.2 _ hm
      have e2 : rd_L1 (impl_PairsLeft.rows n talk) (i : Int) = [a, b] := (rdL _ i hi).trans e
      have e3 : (impl_PairsLeft.rows n talk).getD i [] = [a, b] := by rw [List.getD_eq_getElem?_getD, List.getElem?_eq_getElem hi]; exact e
      have h5 := k22 (K1 + K4 + K5 + K6 + K7 + K8 + K9 + K10 + K11 + K12 + K13 + K14 + K15 + K16 + K17 + K18 + K19 + K20 + K21 + K22) (by omega) i hi
      have h6 := iTrue n talk hs _ h hm
      have h7 := mem_aln true _ hrt _ hm
      rw [e] at h6 h7
      (try dsimp only at h5)
      rw [e3] at h5
      refine ⟨a, b, e2, h1, h2, h3, ?_, h6⟩
      (try dsimp only)
      (try rw [e3])
      have h8 : decide (Tk.tv true [a, b] ∈ Al.aln true (impl_PairsLeft.rows n talk)) = decide (Tk.cnt true (impl_PairsLeft.rows n talk) (Tk.tv true [a, b]) = 1) := decide_eq_decide.2 h7
      rw [← h8]
      exact h5
    all := fun h => by
      rw [countP_at [] (fun x => decide (Tk.cnt true (impl_PairsLeft.rows n talk) (Tk.tv true x) = 1)), hS]
      exact List.countP_eq_length_filter
    zt := fun h => by
      have h2 := ((ok_iff n talk).1 h).2
      unfold impl_isTalk.ok at h2
      simp only [Bool.and_eq_true, decide_eq_true_eq] at h2
      exact h2.1.2
    xX := hX
    st := fun h h2 j hj => by
      obtain ⟨h3, h4⟩ := rows_more n talk j hj h h2
      have hz : (talk ++ Nx.stm j).size ≤ 1048576 := by rw [ByteArray.size_append, (Nx.parts j hj).1]; omega
      refine ⟨?_, say_len _ _ _, ?_⟩
      · rw [iCount n _ hz, h3, h4]
      · rw [if_pos h]
        exact next_any _ j hj
    s0 := fun h h2 => by
      have a1 := say_plus true (impl_PairsLeft.rows n talk)
      have a2 := say_plus false (impl_PairsLeft.rows n talk)
      have a3 := say_minus true (impl_PairsLeft.rows n talk)
      have a4 := say_minus false (impl_PairsLeft.rows n talk)
      refine ⟨?_, ?_, ?_, ?_⟩
      · show ((Tk.say true 43 (impl_PairsLeft.rows n talk)).length : Int) = _
        rw [a1, hS]
      · show ((Tk.say false 43 (impl_PairsLeft.rows n talk)).length : Int) = _
        rw [a2, hP]
      · show ((Tk.say true 45 (impl_PairsLeft.rows n talk)).length : Int) = _
        rw [hS]; omega
      · show ((Tk.say false 45 (impl_PairsLeft.rows n talk)).length : Int) = _
        rw [hP]; omega
    d2 := k2
    i2 := rfl
    s2 := rfl
    d3 := k3
    i3 := rfl
    s3 := rfl
    d4 := k4 _ (by omega)
    i4 := iTalk s hs'
    s4 := k10 _ (by omega)
    g2 := k18 _ (by omega)
    g3 := k19 _ (by omega)
    p2 := k20 _ (by omega)
    p3 := k21 _ (by omega)
    l2 := q1
    l3 := p1
    row2 := fun i hi => by
      obtain ⟨a, b, e, h1, h2, h3, h4, h5, h6⟩ := q3 _ (List.getElem_mem hi)
      rw [e] at h5
      exact ⟨a, b, (rdL _ i hi).trans e, h1, h2, h3, h4, h5, h6⟩
    row3 := fun i hi => by
      obtain ⟨a, b, e, h1, h2, h3, h4, h5, h6⟩ := p3 _ (List.getElem_mem hi)
      rw [e] at h5
      exact ⟨a, b, (rdL _ i hi).trans e, h1, h2, h3, h4, h5, h6⟩ }
end Go.Proofs.Ytlkbphhmahipdaa.Pure
