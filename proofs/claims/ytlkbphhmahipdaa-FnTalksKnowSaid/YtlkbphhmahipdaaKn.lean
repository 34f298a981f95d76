/- Talks in turn: what is left behind each statement that tells only that the speaker does not know, and when a pair is known. No condition. -/
import Derived.Test.YtlkbphhmahipdaaTk
namespace Go.Proofs.Ytlkbphhmahipdaa.Kn
open Go.RowKit Go.Proofs.YtlkbphhmahipdaaW.PrintWords
/-- Who makes statement k + 1, where s begins. -/
def alt (s : Bool) (k : Nat) : Bool := if k % 2 = 0 then s else !s
theorem alt_succ (s : Bool) (k : Nat) : alt s (k + 1) = !alt s k := by
  unfold alt
  rcases Nat.mod_two_eq_zero_or_one k with h | h
  · rw [if_pos h, if_neg (by omega)]
  · rw [if_neg (show ¬ k % 2 = 0 by omega), if_pos (show (k + 1) % 2 = 0 by omega), Bool.not_not]
theorem alt_two (s : Bool) (k : Nat) : alt s (k + 2) = alt s k := by rw [alt_succ, alt_succ, Bool.not_not]
/-- What is left behind k statements. -/
def rests (A : List (List Int)) (s : Bool) : Nat → List (List Int)
  | 0 => A
  | k + 1 => Tk.say (alt s k) 45 (rests A s k)
/-- How many statements have left all pairs, one behind the other. -/
def still (A : List (List Int)) (s : Bool) : Nat → Nat
  | 0 => 0
  | k + 1 => if (rests A s (k + 1)).length < (rests A s k).length then 0 else still A s k + 1
/-- Behind which statement x is known, 0 if behind none of m. -/
def fst (A : List (List Int)) (s : Bool) (x : List Int) : Nat → Nat
  | 0 => 0
  | m + 1 => if fst A s x m ≠ 0 then fst A s x m else if x ∈ rests A s (m + 1) then 0 else m + 1
section
variable {A : List (List Int)} {s : Bool}
theorem fst_succ (x : List Int) (m : Nat) : fst A s x (m + 1) = if fst A s x m ≠ 0 then fst A s x m else if x ∈ rests A s (m + 1) then 0 else m + 1 := rfl
theorem rests_succ (k : Nat) : rests A s (k + 1) = (rests A s k).filter (Tk.keepSay (alt s k) 45 (rests A s k)) := rfl
theorem rests_le (k : Nat) : (rests A s (k + 1)).length ≤ (rests A s k).length := by rw [rests_succ]; exact List.length_filter_le _ _
theorem rests_sub (k : Nat) : ∀ x ∈ rests A s (k + 1), x ∈ rests A s k := fun x h => by rw [rests_succ] at h; exact (List.mem_filter.1 h).1
theorem rests_all (k : Nat) : ∀ x ∈ rests A s k, x ∈ A := by
  induction k with
  | zero => exact fun x h => h
  | succ k ih => exact fun x h => ih x (rests_sub k x h)
theorem rests_down (j : Nat) : ∀ k, ∀ x ∈ rests A s (j + k), x ∈ rests A s j
  | 0, _, h => h
  | k + 1, x, h => rests_down j k x (rests_sub (j + k) x h)
theorem rests_same {k : Nat} (h : ¬ (rests A s (k + 1)).length < (rests A s k).length) : rests A s (k + 1) = rests A s k := by
  rw [rests_succ] at h ⊢
  exact List.filter_sublist.eq_of_length (Nat.le_antisymm (List.length_filter_le _ _) (Nat.le_of_not_lt h))
theorem still_two {N : Nat} (h : 2 ≤ still A s N) : ∃ k, N = k + 2 ∧ rests A s (k + 1) = rests A s k ∧ rests A s (k + 2) = rests A s (k + 1) := by
  match N, h with
  | 0, h => exact absurd h (by simp [still])
  | 1, h =>
    unfold still at h
    split at h
    · omega
    · simp [still] at h
  | k + 2, h =>
    unfold still at h
    split at h
    · omega
    · rename_i h1
      unfold still at h
      split at h
      · omega
      · rename_i h2
        exact ⟨k, rfl, rests_same h2, rests_same h1⟩
theorem rests_stay {k : Nat} (h1 : rests A s (k + 1) = rests A s k) (h2 : rests A s (k + 2) = rests A s (k + 1)) : ∀ m, rests A s (k + m) = rests A s k ∧ rests A s (k + m + 1) = rests A s k
  | 0 => ⟨rfl, h1⟩
  | m + 1 => by
    obtain ⟨i1, i2⟩ := rests_stay h1 h2 m
    refine ⟨i2, ?_⟩
    have hs : ∀ j, rests A s (j + 1) = Tk.say (alt s j) 45 (rests A s j) := fun _ => rfl
    rw [show k + (m + 1) + 1 = (k + m + 1) + 1 from rfl, hs, i2]
    have e1 : Tk.say (alt s k) 45 (rests A s k) = rests A s k := h1
    have e2 : Tk.say (alt s (k + 1)) 45 (rests A s k) = rests A s k := by
      have := h2
      rw [show k + 2 = (k + 1) + 1 from rfl, hs, h1] at this
      exact this
    rcases Nat.mod_two_eq_zero_or_one m with hm | hm
    · have : alt s (k + m + 1) = alt s (k + 1) := by unfold alt; congr 1; simp; omega
      rw [this]; exact e2
    · have : alt s (k + m + 1) = alt s k := by unfold alt; congr 1; simp; omega
      rw [this]; exact e1
theorem rests_end {N : Nat} (h : 2 ≤ still A s N) (m : Nat) : rests A s (N + m) = rests A s N := by
  obtain ⟨k, rfl, h1, h2⟩ := still_two h
  rw [show k + 2 + m = k + (2 + m) by omega, (rests_stay h1 h2 (2 + m)).1, (rests_stay h1 h2 2).1]
theorem fst_end {N : Nat} (h : 2 ≤ still A s N) (x : List Int) (hx : x ∈ A) : ∀ m, fst A s x (N + m) = fst A s x N
  | 0 => rfl
  | m + 1 => by
    have ih := fst_end h x hx m
    rw [show N + (m + 1) = (N + m) + 1 from rfl, fst_succ]
    split
    · exact ih
    · rename_i h0
      rw [ih] at h0
      have h0 : fst A s x N = 0 := by omega
      have hin : x ∈ rests A s N := by
        obtain ⟨k, rfl, _⟩ := still_two h
        rw [fst_succ] at h0
        split at h0
        · omega
        · split at h0
          · assumption
          · omega
      rw [show N + m + 1 = N + (m + 1) from rfl, rests_end h (m + 1), if_pos hin, h0]
theorem fst_in {m : Nat} {x : List Int} (hx : x ∈ A) (h : fst A s x m = 0) : x ∈ rests A s m := by
  cases m with
  | zero => exact hx
  | succ m =>
    rw [fst_succ] at h
    split at h
    · omega
    · split at h
      · assumption
      · omega
theorem fst_of_in {x : List Int} : ∀ {m : Nat}, x ∈ rests A s m → fst A s x m = 0
  | 0, _ => rfl
  | m + 1, h => by
    rw [fst_succ, fst_of_in (rests_sub m x h)]
    simp [h]
theorem fst_at {x : List Int} (hx : x ∈ A) : ∀ {m k : Nat}, fst A s x m = k + 1 → k < m ∧ x ∈ rests A s k ∧ x ∉ rests A s (k + 1)
  | 0, k, h => by simp [fst] at h
  | m + 1, k, h => by
    rw [fst_succ] at h
    split at h
    · obtain ⟨h1, h2⟩ := fst_at hx h
      exact ⟨by omega, h2⟩
    · rename_i h0
      split at h
      · omega
      · rename_i h1
        obtain rfl : m = k := by omega
        exact ⟨by omega, fst_in hx (by omega), h1⟩
theorem fst_eq {x : List Int} {k : Nat} (h1 : x ∈ rests A s k) (h2 : x ∉ rests A s (k + 1)) : ∀ m, fst A s x (k + 1 + m) = k + 1
  | 0 => by
    show fst A s x (k + 1) = k + 1
    rw [fst_succ, fst_of_in h1]
    simp [h2]
  | m + 1 => by
    have ih := fst_eq h1 h2 m
    show fst A s x (k + 1 + m + 1) = k + 1
    rw [fst_succ, ih]
    simp
/-- How far the talk still may go. -/
def pot (A : List (List Int)) (s : Bool) (k : Nat) : Nat := 2 * (rests A s k).length + (2 - still A s k)
theorem pot_succ {k : Nat} (h : still A s k < 2) : pot A s (k + 1) < pot A s k := by
  have h1 := rests_le (A := A) (s := s) k
  have e : still A s (k + 1) = if (rests A s (k + 1)).length < (rests A s k).length then 0 else still A s k + 1 := rfl
  unfold pot
  rw [e]
  split <;> omega
theorem pot_bd : ∀ k, (∀ j, j < k → still A s j < 2) → k + pot A s k ≤ 2 * A.length + 2
  | 0, _ => by simp [pot, rests, still]
  | k + 1, h => by
    have h1 := pot_bd k (fun j hj => h j (by omega))
    have h2 := pot_succ (h k (by omega))
    omega
/-- The entries of those who are known behind k statements. -/
def known (A : List (List Int)) (s : Bool) : Nat → List (Int × Int × Int)
  | 0 => []
  | k + 1 => known A s k ++ (Tk.say (alt s k) 43 (rests A s k)).map fun x => (rd x 0, rd x 1, (k : Int) + 1)
theorem say_plus (b : Bool) (xs : List (List Int)) (x : List Int) : x ∈ Tk.say b 43 xs ↔ x ∈ xs ∧ x ∉ Tk.say b 45 xs := by
  unfold Tk.say
  simp only [List.mem_filter, Tk.keepSay]
  constructor
  · rintro ⟨h1, h2⟩
    refine ⟨h1, fun h => ?_⟩
    have h3 := h.2
    simp at h2 h3
    exact h3 h2
  · rintro ⟨h1, h2⟩
    refine ⟨h1, ?_⟩
    simp at h2 ⊢
    exact h2 h1
theorem say_len (b : Bool) (xs : List (List Int)) : (Tk.say b 43 xs).length + (Tk.say b 45 xs).length = xs.length := by
  unfold Tk.say
  have e : ∀ x, Tk.keepSay b 45 xs x = !Tk.keepSay b 43 xs x := fun x => by
    simp [Tk.keepSay]
  have e' : xs.filter (Tk.keepSay b 45 xs) = xs.filter fun x => !Tk.keepSay b 43 xs x := by congr 1; funext x; exact e x
  rw [e', ← List.countP_eq_length_filter, ← List.countP_eq_length_filter]
  have := List.length_eq_countP_add_countP (Tk.keepSay b 43 xs) (l := xs)
  simp at this
  omega
theorem known_len : ∀ k, (known A s k).length + (rests A s k).length = A.length
  | 0 => by simp [known, rests]
  | k + 1 => by
    have ih := known_len k
    have h := say_len (alt s k) (rests A s k)
    have e : rests A s (k + 1) = Tk.say (alt s k) 45 (rests A s k) := rfl
    rw [e]
    unfold known
    rw [List.length_append, List.length_map]
    omega
/-- Two numbers. -/
def Two (A : List (List Int)) : Prop := ∀ x ∈ A, x.length = 2
theorem two_eq {x : List Int} (h : x.length = 2) : x = [rd x 0, rd x 1] := by
  match x, h with
  | [a, b], _ => rfl
theorem known_mem (hA : Two A) : ∀ k, ∀ e ∈ known A s k, ∃ (x : List Int) (j : Nat), x ∈ A ∧ e = (rd x 0, rd x 1, (j : Int) + 1) ∧ j < k ∧ x ∈ rests A s j ∧ x ∉ rests A s (j + 1)
  | 0, e, h => by cases h
  | k + 1, e, h => by
    unfold known at h
    rcases List.mem_append.1 h with h | h
    · obtain ⟨x, j, h1, h2, h3, h4⟩ := known_mem hA k e h
      exact ⟨x, j, h1, h2, by omega, h4⟩
    · obtain ⟨x, hx, rfl⟩ := List.mem_map.1 h
      obtain ⟨h1, h2⟩ := (say_plus _ _ _).1 hx
      exact ⟨x, k, rests_all k x h1, rfl, by omega, h1, h2⟩
theorem mem_known {x : List Int} {j : Nat} (h1 : x ∈ rests A s j) (h2 : x ∉ rests A s (j + 1)) : ∀ k, j < k → (rd x 0, rd x 1, (j : Int) + 1) ∈ known A s k
  | 0, h => by omega
  | k + 1, h => by
    unfold known
    by_cases e : j = k
    · subst e
      exact List.mem_append_right _ (List.mem_map.2 ⟨x, (say_plus _ _ _).2 ⟨h1, h2⟩, rfl⟩)
    · exact List.mem_append_left _ (mem_known h1 h2 k (by omega))
theorem rests_nodup (h : A.Nodup) : ∀ k, (rests A s k).Nodup
  | 0 => h
  | k + 1 => by rw [rests_succ]; exact (rests_nodup h k).filter _
theorem known_apart (hA : Two A) (hd : A.Nodup) : ∀ k, (known A s k).Pairwise fun x y => ¬ (x.1 = y.1 ∧ x.2.1 = y.2.1)
  | 0 => List.Pairwise.nil
  | k + 1 => by
    unfold known
    refine List.pairwise_append.2 ⟨known_apart hA hd k, ?_, ?_⟩
    · rw [List.pairwise_map]
      have h1 : (Tk.say (alt s k) 43 (rests A s k)).Nodup := (rests_nodup hd k).filter _
      refine List.Pairwise.imp_of_mem ?_ h1
      intro x y hx hy hne he
      have h2 := hA x (rests_all k x ((say_plus _ _ _).1 hx).1)
      have h3 := hA y (rests_all k y ((say_plus _ _ _).1 hy).1)
      obtain ⟨e1, e2⟩ := he
      dsimp only at e1 e2
      exact hne (by rw [two_eq h2, two_eq h3, e1, e2])
    · intro e he f hf hef
      obtain ⟨x, j, h1, rfl, h3, h4, h5⟩ := known_mem hA k e he
      obtain ⟨y, hy, rfl⟩ := List.mem_map.1 hf
      obtain ⟨h6, h7⟩ := (say_plus _ _ _).1 hy
      obtain ⟨e1, e2⟩ := hef
      dsimp only at e1 e2
      have : x = y := by rw [two_eq (hA x h1), two_eq (hA y (rests_all k y h6)), e1, e2]
      subst this
      have := rests_down (j + 1) (k - (j + 1)) x (by rw [show j + 1 + (k - (j + 1)) = k by omega]; exact h6)
      exact h5 this
end
/-- Behind which statement x is known, 0 if never: the talk has ended behind 4000. -/
def kt (A : List (List Int)) (s : Bool) (x : List Int) : Nat := fst A s x 4000
theorem kt_of_end {A : List (List Int)} {s : Bool} {N : Nat} (h : 2 ≤ still A s N) (hN : N ≤ 4000) {x : List Int} (hx : x ∈ A) : fst A s x N = kt A s x := by
  have := fst_end h x hx (4000 - N)
  rw [show N + (4000 - N) = 4000 by omega] at this
  exact this.symm
theorem filter_rests {A : List (List Int)} {s : Bool} : ∀ N, A.filter (fun x => decide (x ∈ rests A s N)) = rests A s N
  | 0 => List.filter_eq_self.2 fun x hx => decide_eq_true (show x ∈ rests A s 0 from hx)
  | N + 1 => by
    have ih := filter_rests (A := A) (s := s) N
    have e : ∀ x, decide (x ∈ rests A s (N + 1)) = (decide (x ∈ rests A s N) && Tk.keepSay (alt s N) 45 (rests A s N) x) := fun x => by
      have hm : x ∈ rests A s (N + 1) ↔ x ∈ rests A s N ∧ Tk.keepSay (alt s N) 45 (rests A s N) x = true := by rw [rests_succ]; exact List.mem_filter
      rw [Bool.eq_iff_iff]
      simp only [Bool.and_eq_true, decide_eq_true_eq]
      exact hm
    have e2 : A.filter (fun x => decide (x ∈ rests A s (N + 1))) = (A.filter (fun x => decide (x ∈ rests A s N))).filter (Tk.keepSay (alt s N) 45 (rests A s N)) := by
      rw [List.filter_filter]
      congr 1
      funext x
      rw [e x, Bool.and_comm]
    rw [e2, ih]
    rfl
theorem kt_count {A : List (List Int)} {s : Bool} {N : Nat} (h : 2 ≤ still A s N) (hN : N ≤ 4000) : A.countP (fun x => decide (kt A s x = 0)) = (rests A s N).length := by
  rw [← filter_rests N, ← List.countP_eq_length_filter]
  refine List.countP_congr fun x hx => ?_
  rw [← kt_of_end h hN hx]
  simp only [decide_eq_true_eq]
  exact ⟨fun h => fst_in hx h, fun h => fst_of_in h⟩
theorem kt_eq (A : List (List Int)) (s : Bool) (x : List Int) : kt A s x = fst A s x 4000 := rfl
attribute [irreducible] kt
/-- A row whose first i numbers are new. -/
def mix (f g : List Int → Int) (A : List (List Int)) (i : Nat) : List Int := (A.take i).map f ++ (A.drop i).map g
theorem mix_len (f g : List Int → Int) (A : List (List Int)) (i : Nat) : (mix f g A i).length = A.length := by simp [mix]; omega
theorem mix_zero (f g : List Int → Int) (A : List (List Int)) : mix f g A 0 = A.map g := by simp [mix]
theorem mix_full (f g : List Int → Int) (A : List (List Int)) : mix f g A A.length = A.map f := by simp [mix]
theorem mix_at (f g : List Int → Int) (A : List (List Int)) (i : Nat) (h : i < A.length) : (mix f g A i).getD i 0 = g A[i] := by
  have h1 : (A.take i).length = i := by rw [List.length_take]; omega
  rw [mix, List.getD_eq_getElem?_getD, List.getElem?_append_right (by rw [List.length_map, h1]; exact Nat.le_refl _), List.length_map, h1, Nat.sub_self, List.drop_eq_getElem_cons h]
  rfl
theorem mix_set (f g : List Int → Int) (A : List (List Int)) (i : Nat) (h : i < A.length) : (mix f g A i).set i (f A[i]) = mix f g A (i + 1) := by
  have h1 : ((A.take i).map f).length = i := by rw [List.length_map, List.length_take]; omega
  rw [mix, mix, List.set_append_right _ _ (by omega), h1, Nat.sub_self, List.drop_eq_getElem_cons h, List.take_succ_eq_append_getElem h, List.map_cons, List.set_cons_zero, List.map_append, List.append_assoc]
  rfl
theorem mix_same (f g : List Int → Int) (A : List (List Int)) (i : Nat) (h : i < A.length) (e : f A[i] = g A[i]) : mix f g A i = mix f g A (i + 1) := by
  rw [mix, mix, List.drop_eq_getElem_cons h, List.take_succ_eq_append_getElem h, List.map_cons, List.map_append, List.append_assoc, ← e]
  rfl
/-- Who begins. -/
def sp (who : ByteArray) : Bool := decide (who.toList = [115])
def who (w : ByteArray) : Bool := decide (w.toList = [115] ∨ w.toList = [112])
theorem wh_of {w : ByteArray} (h : who w = true) : w = Tk.wh (sp w) := by
  have h := of_decide_eq_true h
  unfold sp
  by_cases e : w.toList = [115]
  · rw [decide_eq_true e]
    rw [ByteArray.toList_eq] at e
    obtain ⟨⟨d⟩⟩ := w
    dsimp only at e
    subst e
    rfl
  · rw [decide_eq_false e]
    have e := h.resolve_left e
    rw [ByteArray.toList_eq] at e
    obtain ⟨⟨d⟩⟩ := w
    dsimp only at e
    subst e
    rfl
theorem wh_ok (s : Bool) : who (Tk.wh s) = true ∧ sp (Tk.wh s) = s := by cases s <;> simp [who, sp, Tk.wh]
/-- What is said in i statements if nobody knows. -/
def tt (s : Bool) : Nat → ByteArray
  | 0 => ⟨#[]⟩
  | i + 1 => tt s i ++ (Tk.wh (alt s i) ++ ⟨#[45]⟩)
theorem wh_size (s : Bool) : (Tk.wh s).size = 1 := by cases s <;> rfl
theorem tt_size (s : Bool) : ∀ i, (tt s i).size = 2 * i
  | 0 => rfl
  | i + 1 => by
    show (tt s i ++ (Tk.wh (alt s i) ++ ⟨#[45]⟩)).size = _
    rw [ByteArray.size_append, ByteArray.size_append, tt_size s i, wh_size]
    show 2 * i + (1 + 1) = _
    omega
/-- The talk about a pair that is known behind k statements, 0 if never. -/
def talk (s : Bool) (k : Nat) : ByteArray := if 1 ≤ k ∧ k ≤ 12 then (tt s (k - 1) ++ Tk.wh (alt s (k - 1))) ++ ⟨#[43]⟩ else tt s 12
/-- The first pair that is known last, and behind how many statements. -/
def stepT (t : List Int → Nat) (b : List Int × Nat) (x : List Int) : List Int × Nat := if b.2 < t x then (x, t x) else b
def bestT (t : List Int → Nat) (xs : List (List Int)) : List Int × Nat := xs.foldl (stepT t) ([0, 0], 0)
theorem bestT_snoc (t : List Int → Nat) (xs : List (List Int)) (x : List Int) : bestT t (xs ++ [x]) = stepT t (bestT t xs) x := by
  unfold bestT
  rw [List.foldl_append]
  rfl
def best (A : List (List Int)) (s : Bool) (xs : List (List Int)) : List Int × Nat := bestT (kt A s) xs
theorem best_snoc (A : List (List Int)) (s : Bool) (xs : List (List Int)) (x : List Int) : best A s (xs ++ [x]) = stepT (kt A s) (best A s xs) x := bestT_snoc (kt A s) xs x
end Go.Proofs.Ytlkbphhmahipdaa.Kn
