/- The program's ParseRatios tells what the reference's tells, for all texts. No condition. -/
import Derived.Test.YtnbolemfldmohaaDoorPx11
import Derived.Test.YtnbolemfldmohaaDoorPx1
import Derived.Test.YtnbolemfldmohaaDoorPx10
import Derived.Test.YtnbolemfldmohaaDoorPxHimplqreadNumber
import Derived.Test.YtnbolemfldmohaaDoorPxHstringsqSplit
import Derived.Test.YtnbolemfldmohaaDoorWWords
import Derived.Lib.Split
import Derived.Lib.SplitLaws
import Derived.Test.YtnbolemfldmohaaDoorMk
import Derived.Test.YtnbolemfldmohaaDoorEv
import Derived.Test.YtnbolemfldmohaaDoorPxHimplqareRatios
import Derived.Test.YtnbolemfldmohaaDoorPx0
import Derived.Test.YtnbolemfldmohaaDoorPx5
import Derived.Test.YtnbolemfldmohaaDoorPx2
namespace Go.Proofs.YtnbolemfldmohaaDoor.Pa
open Go.RowKit
/-- The pieces between the instances of c. -/
def parts (c : UInt8) : List UInt8 → List (List UInt8)
  | [] => [[]]
  | b :: l => if b = c then [] :: parts c l else match parts c l with
    | [] => [[b]]
    | x :: r => (b :: x) :: r
theorem parts_ne (c : UInt8) : ∀ l, parts c l ≠ []
  | [] => by simp [parts]
  | b :: l => by
    unfold parts
    split
    · simp
    · split <;> simp
theorem parts_cons_ne (c b : UInt8) (l : List UInt8) (h : b ≠ c) : ∃ x r, parts c l = x :: r ∧ parts c (b :: l) = (b :: x) :: r := by
  obtain ⟨x, r, e⟩ := List.exists_cons_of_ne_nil (parts_ne c l)
  refine ⟨x, r, e, ?_⟩
  rw [parts, if_neg h, e]
theorem parts_cons_eq (c : UInt8) (l : List UInt8) : parts c (c :: l) = [] :: parts c l := by rw [parts, if_pos rfl]
theorem index_cons_ne (b c : UInt8) (l : List UInt8) (h : b ≠ c) : Lib.index (b :: l) [c] = if Lib.index l [c] = -1 then -1 else Lib.index l [c] + 1 := by
  rw [Lib.index, if_neg (by simp [List.isPrefixOf]; exact fun e => h e.symm)]
  by_cases hi : Lib.index l [c] = -1
  · rw [if_pos (by simp [hi]), if_pos hi]
  · rw [if_neg (by simpa using hi), if_neg hi]
theorem index_cons_eq (c : UInt8) (l : List UInt8) : Lib.index (c :: l) [c] = 0 := by
  rw [Lib.index, if_pos (by simp [List.isPrefixOf])]
theorem split_parts (c : UInt8) (l : List UInt8) : Lib.split l [c] = parts c l := by
  unfold Lib.split
  rw [Lib.count_one]
  induction l with
  | nil => rfl
  | cons b l ih =>
    by_cases h : b = c
    · subst h
      rw [List.count_cons_self, Lib.splitK, index_cons_eq, parts_cons_eq, ← ih]
      simp
    · obtain ⟨x, r, e1, e2⟩ := parts_cons_ne c b l h
      rw [List.count_cons_of_ne h, e2]
      rw [e1] at ih
      cases hk : l.count c with
      | zero =>
        rw [hk] at ih
        simp only [Lib.splitK] at ih ⊢
        obtain ⟨rfl, rfl⟩ := List.cons.inj ih
        rfl
      | succ k =>
        rw [hk] at ih
        simp only [Lib.splitK] at ih ⊢
        rw [index_cons_ne b c l h]
        by_cases hi : Lib.index l [c] = -1
        · rw [hi] at ih ⊢
          simp only [beq_self_eq_true, if_true] at ih ⊢
          obtain ⟨rfl, rfl⟩ := List.cons.inj ih
          rfl
        · have h0 := Lib.index_ge l [c]
          rw [if_neg (by simpa using hi)] at ih
          rw [if_neg hi, if_neg (by simp; omega)]
          obtain ⟨e3, e4⟩ := List.cons.inj ih
          rw [← e3, ← e4]
          have e5 : (Lib.index l [c] + 1).toNat = (Lib.index l [c]).toNat + 1 := by omega
          rw [e5]
          simp
end Go.Proofs.YtnbolemfldmohaaDoor.Pa
namespace Go.Proofs.YtnbolemfldmohaaDoor.Pa
open Go.RowKit Go.Proofs.YtnbolemfldmohaaDoor.P Go.Proofs.YtnbolemfldmohaaDoorW.PrintWords Go.Proofs.YtnbolemfldmohaaDoor.E Go.Proofs.YtnbolemfldmohaaDoor.Tx
theorem split (l : List UInt8) (c : UInt8) (h : l.length ≤ 2000000) : strings_Split.f (mk l) ⟨#[c]⟩ = some ((parts c l).map mk) := by
  unfold strings_Split.f
  rw [if_pos ⟨by rw [mk_size]; exact h, (Nat.le_refl 1 : 1 ≤ (ByteArray.mk #[c]).size)⟩]
  have h1 := Lib.splitB_data ⟨#[c]⟩ 0 (Lib.countB (mk l) ⟨#[c]⟩) (mk l)
  rw [mk_list] at h1
  have h2 : Lib.splitK [c] 0 (Lib.count l [c]) l = parts c l := split_parts c l
  have h3 : (Lib.splitB ⟨#[c]⟩ 0 (Lib.countB (mk l) ⟨#[c]⟩) (mk l)).map (fun x : ByteArray => x.data.toList) = parts c l := by
    rw [← h2]
    show _ = Lib.splitK [c] 0 (Lib.count l [c]) l
    rw [h1]
    show Lib.splitK [c] 0 (Lib.count (mk l).data.toList [c]) l = _
    rw [mk_list]
  rw [← h3, List.map_map]
  have : (mk ∘ fun x : ByteArray => x.data.toList) = id := by funext x; exact mk_of x
  rw [this, List.map_id]
/-- The pieces, where the first one has begun. -/
def cont (c : UInt8) (cur rest : List UInt8) : List (List UInt8) := match parts c rest with
  | [] => [cur]
  | x :: r => (cur ++ x) :: r
theorem cont_nil (c : UInt8) (cur : List UInt8) : cont c cur [] = [cur] := by simp [cont, parts]
theorem cont_eq (c : UInt8) (cur rest : List UInt8) : cont c cur (c :: rest) = cur :: cont c [] rest := by
  obtain ⟨x, r, e⟩ := List.exists_cons_of_ne_nil (parts_ne c rest)
  simp [cont, parts_cons_eq, e]
theorem cont_ne (c b : UInt8) (cur rest : List UInt8) (h : b ≠ c) : cont c cur (b :: rest) = cont c (cur ++ [b]) rest := by
  obtain ⟨x, r, e1, e2⟩ := parts_cons_ne c b rest h
  simp [cont, e1, e2]
theorem cont_zero (c : UInt8) (l : List UInt8) : cont c [] l = parts c l := by
  obtain ⟨x, r, e⟩ := List.exists_cons_of_ne_nil (parts_ne c l)
  simp [cont, e]
theorem bt_mk (l : List UInt8) (i : Nat) (h : i < l.length) : bt (mk l) (i : Int) = (l[i].toNat : Int) := by
  have hs : (i : Int).toNat < (mk l).size := by rw [mk_size]; simpa using h
  rw [← bt_at (mk l) (i : Int) hs]
  rfl
theorem ext_mk (l : List UInt8) (a b : Nat) : (mk l).extract a b = mk ((l.take b).drop a) := by
  rw [← mk_of ((mk l).extract a b), Lib.extract_data, mk_list, List.drop_take]
theorem l1Split_l (l : List UInt8) (c : UInt8) (hl : l.length ≤ 2000000) (n : Nat) : ∀ (i from_ : Nat) (out : List ByteArray), i ≤ l.length → l.length - i ≤ n → from_ ≤ i → out.length ≤ i →
    Ev (fun k => spec_l1Split.l0 k (mk l) (c.toNat : Int) out (from_ : Int) (i : Int)) (out ++ (cont c ((l.take i).drop from_) (l.drop i)).map mk) := by
  have stop : ∀ (from_ : Nat) (out : List ByteArray), from_ ≤ l.length → out.length ≤ l.length → Ev (fun k => spec_l1Split.l0 k (mk l) (c.toNat : Int) out (from_ : Int) (l.length : Int)) (out ++ (cont c ((l.take l.length).drop from_) (l.drop l.length)).map mk) := by
    intro f out hf ho
    refine Ev.step (f := fun k => _) (fun k => by rw [spec_l1Split.l0]) (ifn (by rw [mk_size]; omega) ?_)
    rw [List.drop_length, cont_nil]
    refine ifp (by omega) (ifp (by rw [mk_size]; omega) (ifp (by omega) ?_))
    rw [ext_mk, mk_size, Int.toNat_natCast]
    exact now
  induction n with
  | zero =>
    intro i f out h1 h2 h3 h4
    obtain rfl : i = l.length := by omega
    exact stop f out h3 h4
  | succ n ih =>
    intro i f out h1 h2 h3 h4
    by_cases hi : i < l.length
    · have hw : wrap64 ((i : Int) + 1) = ((i + 1 : Nat) : Int) := by rw [w64 _ (by omega)]; omega
      refine Ev.step (f := fun k => _) (fun k => by rw [spec_l1Split.l0]) (ifp (by rw [mk_size]; omega) (ifp (by omega) ?_))
      rw [bt_mk l i hi, hw, List.drop_eq_getElem_cons hi]
      by_cases hb : l[i] = c
      · refine ifp (by rw [hb]) (ifp (by omega) (ifp (by omega) (ifp (by rw [mk_size]; omega) (ifp (by omega) ?_))))
        rw [ext_mk, Int.toNat_natCast, Int.toNat_natCast, hb, cont_eq, List.map_cons]
        have := ih (i + 1) (i + 1) (out ++ [mk ((l.take i).drop f)]) (by omega) (by omega) (Nat.le_refl _) (by simp; omega)
        rw [show (l.take (i + 1)).drop (i + 1) = [] from List.drop_eq_nil_of_le (by rw [List.length_take]; omega), List.append_assoc, List.singleton_append] at this
        exact this
      · refine ifn (by intro e; apply hb; exact UInt8.toNat.inj (by omega)) ?_
        have := ih (i + 1) f out (by omega) (by omega) (by omega) (by omega)
        have e : (l.take (i + 1)).drop f = (l.take i).drop f ++ [l[i]] := by
          rw [List.take_add_one, List.getElem?_eq_getElem hi, List.drop_append_of_le_length (by rw [List.length_take]; omega)]
          rfl
        rw [e] at this
        rw [cont_ne c l[i] _ _ hb]
        exact this
    · obtain rfl : i = l.length := by omega
      exact stop f out h3 h4
theorem l1Split (l : List UInt8) (c : UInt8) (h : l.length ≤ 2000000) : Ev (fun k => spec_l1Split.f k (mk l) (c.toNat : Int)) ((parts c l).map mk) := by
  have := l1Split_l l c h _ 0 0 [] (Nat.zero_le _) (Nat.le_refl _) (Nat.le_refl _) (Nat.zero_le _)
  rw [List.take_zero, List.drop_zero, List.drop_zero, cont_zero, List.nil_append] at this
  exact this
end Go.Proofs.YtnbolemfldmohaaDoor.Pa
namespace Go.Proofs.YtnbolemfldmohaaDoor.LwI
open Go.Proofs.YtnbolemfldmohaaDoor.P
theorem l1In (a lo hi : Int) : spec_l1In.f a lo hi = some (decide (lo ≤ a ∧ a ≤ hi)) := by
  unfold spec_l1In.f
  by_cases h : a ≥ lo
  · rw [if_pos h]; congr 1; simp; omega
  · rw [if_neg h]; congr 1; simp; omega
end Go.Proofs.YtnbolemfldmohaaDoor.LwI
namespace Go.Proofs.YtnbolemfldmohaaDoor.Pa
open Go.RowKit Go.Proofs.YtnbolemfldmohaaDoor.P Go.Proofs.YtnbolemfldmohaaDoorW.PrintWords Go.Proofs.YtnbolemfldmohaaDoor.E Go.Proofs.YtnbolemfldmohaaDoor.Tx
def dgt (b : UInt8) : Bool := decide (48 ≤ b.toNat ∧ b.toNat ≤ 57)
def val (a : Nat) (t : List UInt8) : Nat := t.foldl (fun n b => 10 * n + (b.toNat - 48)) a
/-- What the reference reads. -/
def readT (t : List UInt8) : Int := if (1 ≤ t.length ∧ t.length ≤ 6) ∧ ¬ (t.head? = some 48 ∧ 1 < t.length) then (if t.all dgt = true then (val 0 t : Int) else -1) else -1
theorem val_bd (t : List UInt8) (h : t.all dgt = true) : ∀ a m : Nat, a < 10 ^ m → val a t < 10 ^ (m + t.length) := by
  induction t with
  | nil => intro a m h; simpa [val] using h
  | cons b t ih =>
    intro a m ha
    rw [List.all_cons, Bool.and_eq_true] at h
    have hd := of_decide_eq_true h.1
    have := ih h.2 (10 * a + (b.toNat - 48)) (m + 1) (by rw [Nat.pow_succ]; omega)
    rw [List.length_cons, show m + (t.length + 1) = m + 1 + t.length by omega]
    exact this
theorem l1Read_l (t : List UInt8) (ht : t.length ≤ 6) (n : Nat) : ∀ (i a : Nat), i ≤ t.length → t.length - i ≤ n → a < 10 ^ i →
    Ev (fun k => spec_l1Read.l0 k (mk t) (a : Int) (i : Int)) (if (t.drop i).all dgt = true then (val a (t.drop i) : Int) else -1) := by
  have stop : ∀ a : Nat, Ev (fun k => spec_l1Read.l0 k (mk t) (a : Int) (t.length : Int)) (if (t.drop t.length).all dgt = true then (val a (t.drop t.length) : Int) else -1) := by
    intro a
    rw [List.drop_length]
    refine Ev.step (f := fun k => _) (fun k => by rw [spec_l1Read.l0]) (ifn (by rw [mk_size]; omega) ?_)
    exact now
  induction n with
  | zero =>
    intro i a h1 h2 _
    obtain rfl : i = t.length := by omega
    exact stop a
  | succ n ih =>
    intro i a h1 h2 ha
    by_cases hi : i < t.length
    · have hp : 10 ^ i ≤ 10 ^ 5 := Nat.pow_le_pow_right (by decide) (by omega)
      have hb : t[i].toNat < 256 := t[i].toNat_lt
      refine Ev.step (f := fun k => _) (fun k => by rw [spec_l1Read.l0]) (ifp (by rw [mk_size]; omega) (ifp (by omega) ?_))
      rw [bt_mk t i hi, List.drop_eq_getElem_cons hi, List.all_cons]
      by_cases h48 : t[i].toNat < 48
      · refine ifp (by omega) (evEq now ?_)
        rw [show dgt t[i] = false from decide_eq_false (by omega)]
        rfl
      · refine ifn (by omega) ?_
        by_cases h57 : 57 < t[i].toNat
        · refine ifp (by omega) (evEq now ?_)
          rw [show dgt t[i] = false from decide_eq_false (by omega)]
          rfl
        · refine ifn (by omega) ?_
          have e : wrap64 (wrap64 (10 * (a : Int)) + ((t[i].toNat : Int) - 48) % 256) = ((10 * a + (t[i].toNat - 48) : Nat) : Int) := by
            rw [w64 (10 * (a : Int)) (by omega), w64 _ (by omega)]
            omega
          have hw : wrap64 ((i : Int) + 1) = ((i + 1 : Nat) : Int) := by rw [w64 _ (by omega)]; omega
          rw [e, hw, show dgt t[i] = true from decide_eq_true (by omega), Bool.true_and]
          exact ih (i + 1) (10 * a + (t[i].toNat - 48)) (by omega) (by omega) (by rw [Nat.pow_succ]; omega)
    · obtain rfl : i = t.length := by omega
      exact stop a
theorem l1Read (t : List UInt8) (h : t.length ≤ 2000000) : Ev (fun k => spec_l1Read.f k (mk t)) (readT t) := by
  unfold spec_l1Read.f
  refine call (LwI.l1In _ _ _) ?_
  rw [mk_size]
  by_cases h6 : 1 ≤ t.length ∧ t.length ≤ 6
  · refine ifp (by simp; omega) (ifp (by omega) ?_)
    have h0 : bt (mk t) 0 = (t[0].toNat : Int) := bt_mk t 0 (by omega)
    have hh : t.head? = some t[0] := by
      cases t with
      | nil => simp at h6
      | cons b t => rfl
    have hmain := l1Read_l t h6.2 _ 0 0 (Nat.zero_le _) (Nat.le_refl _) (by decide)
    rw [List.drop_zero] at hmain
    rw [h0]
    by_cases h48 : t[0] = 48
    · refine ifp (by rw [h48]; rfl) ?_
      by_cases h1 : 1 < t.length
      · refine Ev.step (f := fun k => _) (fun k => by rw [spec_l1Read.j0]) (ifp (by simp; omega) (evEq now ?_))
        unfold readT
        rw [if_neg (by intro e; exact e.2 ⟨by rw [hh, h48], h1⟩)]
      · refine Ev.step (f := fun k => _) (fun k => by rw [spec_l1Read.j0]) (ifn (by simp; omega) ?_)
        unfold readT
        rw [if_pos ⟨h6, fun e => h1 e.2⟩]
        exact hmain
    · refine ifn (by intro e; apply h48; exact UInt8.toNat.inj (by have : (48 : UInt8).toNat = 48 := rfl; omega)) ?_
      refine Ev.step (f := fun k => _) (fun k => by rw [spec_l1Read.j0]) (ifn (by simp) ?_)
      unfold readT
      rw [if_pos ⟨h6, fun e => h48 (by rw [hh] at e; exact Option.some.inj e.1)⟩]
      exact hmain
  · refine ifn (by simp; omega) ?_
    refine Ev.step (f := fun k => _) (fun k => by rw [spec_l1Read.j0]) (ifp rfl (evEq now ?_))
    unfold readT
    rw [if_neg (fun e => h6 e.1)]
/-! What is read is the number's own text. -/
theorem dgt_of (b : UInt8) (h : dgt b = true) : b = UInt8.ofNat (48 + (b.toNat - 48)) := by
  have := of_decide_eq_true h
  apply UInt8.toNat.inj
  rw [UInt8.toNat_ofNat']
  omega
theorem val_snoc (a : Nat) (t : List UInt8) (b : UInt8) : val a (t ++ [b]) = 10 * val a t + (b.toNat - 48) := by simp [val]
theorem val_pos (t : List UInt8) (h : t.all dgt = true) (b : UInt8) (hb : t.head? = some b) (h48 : b ≠ 48) : 1 ≤ val 0 t := by
  cases t with
  | nil => cases hb
  | cons c t =>
    obtain rfl := Option.some.inj hb
    rw [List.all_cons, Bool.and_eq_true] at h
    have hd := of_decide_eq_true h.1
    have h1 : 49 ≤ c.toNat := by
      rcases Nat.lt_or_ge c.toNat 49 with hlt | hge
      · exact absurd (UInt8.toNat.inj (show c.toNat = (48 : UInt8).toNat by have : (48 : UInt8).toNat = 48 := rfl; omega)) h48
      · exact hge
    have mono : ∀ (t : List UInt8) (a : Nat), 1 ≤ a → 1 ≤ val a t := by
      intro t
      induction t with
      | nil => intro a ha; exact ha
      | cons d t ih => intro a ha; show 1 ≤ val (10 * a + (d.toNat - 48)) t; exact ih _ (by omega)
    exact mono t (10 * 0 + (c.toNat - 48)) (by omega)
theorem dig_val (m : Nat) : ∀ t : List UInt8, t.length ≤ m → t ≠ [] → t.all dgt = true → ¬ (t.head? = some 48 ∧ 1 < t.length) → Lib.decDigits (val 0 t) = t := by
  induction m with
  | zero => intro t h h0; cases t with | nil => exact absurd rfl h0 | cons b t => simp at h
  | succ m ih =>
    intro t h h0 hd hc
    obtain ⟨s, b, rfl⟩ : ∃ s b, t = s ++ [b] := ⟨t.dropLast, t.getLast h0, (List.dropLast_concat_getLast h0).symm⟩
    rw [List.all_append, Bool.and_eq_true] at hd
    have hb : dgt b = true := by simpa using hd.2
    have hb2 := of_decide_eq_true hb
    rw [val_snoc]
    by_cases hs : s = []
    · subst hs
      show Lib.decDigits (10 * 0 + (b.toNat - 48)) = [b]
      rw [Lib.decDigits, dif_pos (by omega)]
      rw [show 48 + (10 * 0 + (b.toNat - 48)) = 48 + (b.toNat - 48) by omega, ← dgt_of b hb]
    · have hh : (s ++ [b]).head? = s.head? := by
        cases s with
        | nil => exact absurd rfl hs
        | cons c s => rfl
      have hl : 1 < (s ++ [b]).length := by
        have : s.length ≠ 0 := fun e => hs (List.length_eq_zero_iff.1 e)
        rw [List.length_append, List.length_singleton]; omega
      obtain ⟨c, hc0⟩ : ∃ c, s.head? = some c := by
        cases s with
        | nil => exact absurd rfl hs
        | cons c s => exact ⟨c, rfl⟩
      have h48 : c ≠ 48 := by
        intro e
        apply hc
        exact ⟨by rw [hh, hc0, e], hl⟩
      have hp := val_pos s hd.1 c hc0 h48
      rw [Lib.decDigits, dif_neg (by omega)]
      rw [show (10 * val 0 s + (b.toNat - 48)) / 10 = val 0 s by omega, show (10 * val 0 s + (b.toNat - 48)) % 10 = b.toNat - 48 by omega]
      rw [ih s (by rw [List.length_append, List.length_singleton] at h; omega) hs hd.1 (fun e => h48 (by rw [hc0] at e; exact Option.some.inj e.1)), ← dgt_of b hb]
theorem readT_num (t : List UInt8) (h : 0 ≤ readT t) : t = num (readT t) ∧ readT t < 1000000 ∧ t.all dgt = true := by
  unfold readT at h ⊢
  split at h
  · rename_i hc
    rw [if_pos hc]
    split at h
    · rename_i hd
      rw [if_pos hd]
      refine ⟨?_, ?_, hd⟩
      · unfold num
        rw [Int.toNat_natCast]
        exact (dig_val _ t (Nat.le_refl _) (by intro e; rw [e] at hc; simp at hc) hd hc.2).symm
      · have h1 := val_bd t hd 0 0 (by decide)
        have h2 : 10 ^ (0 + t.length) ≤ 10 ^ 6 := Nat.pow_le_pow_right (by decide) (by have := hc.1.2; omega)
        omega
    · omega
  · omega
/-! A number's text is read back. -/
theorem num_dgt (m : Nat) : ∀ u : Nat, u ≤ m → (Lib.decDigits u).all dgt = true ∧ val 0 (Lib.decDigits u) = u ∧ ¬ ((Lib.decDigits u).head? = some 48 ∧ 1 < (Lib.decDigits u).length) := by
  have one : ∀ u : Nat, u < 10 → dgt (UInt8.ofNat (48 + u)) = true ∧ (UInt8.ofNat (48 + u)).toNat = 48 + u := by
    intro u hu
    have e : (UInt8.ofNat (48 + u)).toNat = 48 + u := by rw [UInt8.toNat_ofNat']; omega
    exact ⟨decide_eq_true (by rw [e]; omega), e⟩
  induction m with
  | zero =>
    intro u hu
    obtain rfl : u = 0 := by omega
    rw [Lib.decDigits, dif_pos (by decide)]
    exact ⟨by decide, by decide, by decide⟩
  | succ m ih =>
    intro u hu
    by_cases h : u < 10
    · obtain ⟨h1, h2⟩ := one u h
      rw [Lib.decDigits, dif_pos h]
      refine ⟨by rw [List.all_cons, h1]; rfl, ?_, by simp⟩
      show 10 * 0 + ((UInt8.ofNat (48 + u)).toNat - 48) = u
      rw [h2]; omega
    · obtain ⟨h1, h2⟩ := one (u % 10) (by omega)
      obtain ⟨i1, i2, i3⟩ := ih (u / 10) (by omega)
      have i4 : 0 < (Lib.decDigits (u / 10)).length := by
        rw [Lib.decDigits]
        split <;> simp
      have hne : (Lib.decDigits (u / 10)).head? ≠ some 48 := by
        intro e
        by_cases hl : 1 < (Lib.decDigits (u / 10)).length
        · exact i3 ⟨e, hl⟩
        · have : ∃ b, Lib.decDigits (u / 10) = [b] := by
            cases hq : Lib.decDigits (u / 10) with
            | nil => rw [hq] at i4; simp at i4
            | cons b r =>
              rw [hq] at hl
              cases r with
              | nil => exact ⟨b, rfl⟩
              | cons c r => simp at hl
          obtain ⟨b, hb⟩ := this
          rw [hb] at e i2
          obtain rfl := Option.some.inj e
          have : val 0 [(48 : UInt8)] = 0 := rfl
          omega
      rw [Lib.decDigits, dif_neg h]
      refine ⟨by rw [List.all_append, i1, List.all_cons, h1]; rfl, by rw [val_snoc, i2, h2]; omega, ?_⟩
      intro e
      apply hne
      have : (Lib.decDigits (u / 10) ++ [UInt8.ofNat (48 + u % 10)]).head? = (Lib.decDigits (u / 10)).head? := by
        cases hq : Lib.decDigits (u / 10) with
        | nil => rw [hq] at i4; simp at i4
        | cons b r => rfl
      rw [← this]
      exact e.1
theorem num_read (n : Int) (h0 : 0 ≤ n) (h1 : n < 1000000) : readT (num n) = n := by
  obtain ⟨d1, d2, d3⟩ := num_dgt n.toNat n.toNat (Nat.le_refl _)
  have hl := digits_len 5 n.toNat (by omega)
  have hp := num_pos n
  unfold readT num
  rw [if_pos ⟨⟨hp, hl⟩, d3⟩, if_pos d1, d2]
  omega
theorem parse_val (t : List UInt8) (h : t.all dgt = true) : ∀ a m : Nat, a < 10 ^ m → m + t.length ≤ 18 → Lib.parseUint10 a t = .ok (val a t) := by
  induction t with
  | nil => intro a m _ _; rfl
  | cons b t ih =>
    intro a m ha hm
    rw [List.all_cons, Bool.and_eq_true] at h
    have hd := of_decide_eq_true h.1
    rw [List.length_cons] at hm
    have hp : 10 ^ m ≤ 10 ^ 17 := Nat.pow_le_pow_right (by decide) (by omega)
    rw [Lib.parseUint10, if_pos hd, if_neg (by omega), if_neg (by omega)]
    have := ih h.2 (a * 10 + (b.toNat - 48)) (m + 1) (by rw [Nat.pow_succ]; omega) (by omega)
    rw [this]
    congr 1
    rw [Nat.mul_comm a 10]
    rfl
theorem atoi_num (n : Int) (h0 : 0 ≤ n) (h1 : n < 1000000) : Lib.atoiAll (num n) = .ok n := by
  obtain ⟨d1, d2, d3⟩ := num_dgt n.toNat n.toNat (Nat.le_refl _)
  have hl := digits_len 5 n.toNat (by omega)
  have hp := num_pos n
  have hv := parse_val (num n) d1 0 0 (by decide) (by unfold num; omega)
  have hvn : val 0 (num n) = n.toNat := d2
  rw [hvn] at hv
  unfold Lib.atoiAll
  cases hq : num n with
  | nil => rw [hq] at hp; simp at hp
  | cons c r =>
    have hc : dgt c = true := by
      have : (c :: r).all dgt = true := by rw [← hq]; exact d1
      rw [List.all_cons, Bool.and_eq_true] at this
      exact this.1
    have hd := of_decide_eq_true hc
    simp only
    rw [if_neg (by omega)]
    have hm : Lib.parseMag (c :: r) = .ok n.toNat := by
      unfold Lib.parseMag
      rw [if_neg (by simp), ← hq]
      exact hv
    rw [hm]
    simp only
    rw [if_neg (by omega), if_neg (by omega), if_neg (by omega)]
    congr 1
    omega
theorem toList_mk (t : List UInt8) : (mk t).toList = t := by
  rw [ByteArray.toList_eq]
  exact mk_list t
/-- The program reads a number's own text. -/
theorem readNumber_num (n : Int) (h0 : 0 ≤ n) (h1 : n < 1000000) : impl_readNumber.v (mk (num n)) = (n, true) := by
  unfold impl_readNumber.v
  rw [mk_list, atoi_num n h0 h1]
  simp only
  rw [toList_mk]
  have : Lib.itoa n = num n := by
    unfold Lib.itoa
    rw [if_neg (by omega)]
    rfl
  rw [this]
  simp
/-- What the program reads is the number's own text. -/
theorem readNumber_own (t : List UInt8) (n : Int) (h : impl_readNumber.v (mk t) = (n, true)) : t = Lib.itoa n := by
  unfold impl_readNumber.v at h
  rw [mk_list, toList_mk] at h
  split at h
  · rename_i v hv
    obtain ⟨rfl, h2⟩ := Prod.mk.inj h
    exact (by simpa using h2 : Lib.itoa v = t).symm
  · exact absurd (Prod.mk.inj h).2 (by simp)
  · exact absurd (Prod.mk.inj h).2 (by simp)
theorem readNumber_read (t : List UInt8) (n : Int) (h0 : 0 ≤ n) (h1 : n < 1000000) : impl_readNumber.v (mk t) = (n, true) ↔ readT t = n := by
  constructor
  · intro h
    have e := readNumber_own t n h
    have : Lib.itoa n = num n := by
      unfold Lib.itoa
      rw [if_neg (by omega)]
      rfl
    rw [e, this]
    exact num_read n h0 h1
  · intro h
    have := (readT_num t (by omega)).1
    rw [h] at this
    rw [this]
    exact readNumber_num n h0 h1
theorem readNumber (t : List UInt8) (h : t.length ≤ 2000000) : impl_readNumber.f (mk t) = some (impl_readNumber.v (mk t)) := by
  unfold impl_readNumber.f
  rw [if_pos (by rw [mk_size]; exact h)]
end Go.Proofs.YtnbolemfldmohaaDoor.Pa
namespace Go.Proofs.YtnbolemfldmohaaDoor.Pa
open Go.RowKit Go.Proofs.YtnbolemfldmohaaDoor.P Go.Proofs.YtnbolemfldmohaaDoorW.PrintWords Go.Proofs.YtnbolemfldmohaaDoor.E Go.Proofs.YtnbolemfldmohaaDoor.Tx
def nOf (q : List UInt8) : Int := (impl_readNumber.v (mk q)).1
def okOf (q : List UInt8) : Bool := (impl_readNumber.v (mk q)).2
theorem rdOf_mk (qs : List (List UInt8)) (i : Nat) (h : i < qs.length) : rdOf ByteArray.empty (qs.map mk) (i : Int) = mk qs[i] := by
  simp [rdOf, List.getD_eq_getElem?_getD, List.getElem?_eq_getElem h]
theorem parts_sum (c : UInt8) (l : List UInt8) : l.length + 1 = ((parts c l).map fun x => x.length + 1).sum := by
  induction l with
  | nil => rfl
  | cons b l ih =>
    by_cases h : b = c
    · subst h
      rw [parts_cons_eq, List.map_cons, List.sum_cons, ← ih]
      simp; omega
    · obtain ⟨x, r, e1, e2⟩ := parts_cons_ne c b l h
      rw [e2, List.map_cons, List.sum_cons]
      rw [e1, List.map_cons, List.sum_cons] at ih
      simp only [List.length_cons]
      omega
theorem sum_ge (L : List (List UInt8)) (x : List UInt8) (h : x ∈ L) : x.length + 1 ≤ (L.map fun x => x.length + 1).sum := by
  induction L with
  | nil => cases h
  | cons y L ih =>
    rw [List.map_cons, List.sum_cons]
    rcases List.mem_cons.1 h with rfl | h
    · omega
    · have := ih h; omega
theorem sum_len (L : List (List UInt8)) : L.length ≤ (L.map fun x => x.length + 1).sum := by
  induction L with
  | nil => simp
  | cons y L ih => rw [List.map_cons, List.sum_cons, List.length_cons]; omega
theorem parts_le (c : UInt8) (l : List UInt8) : (∀ x ∈ parts c l, x.length ≤ l.length) ∧ (parts c l).length ≤ l.length + 1 := by
  have h := parts_sum c l
  refine ⟨fun x hx => ?_, ?_⟩
  · have := sum_ge _ x hx; omega
  · have := sum_len (parts c l); omega
theorem readNumbers_l (qs : List (List UInt8)) (hq : ∀ q ∈ qs, q.length ≤ 2000000) (hl : qs.length ≤ 2000001) (n : Nat) : ∀ i : Nat, i ≤ qs.length → qs.length - i ≤ n →
    Ev (fun k => impl_readNumbers.l0 k ((qs.take i).map nOf) (qs.map mk) ((qs.map mk).length : Int) (i : Int)) (if (qs.drop i).all okOf = true then (qs.map nOf, true) else (([] : List Int), false)) := by
  have hm : (qs.map mk).length = qs.length := List.length_map ..
  have stop : Ev (fun k => impl_readNumbers.l0 k ((qs.take qs.length).map nOf) (qs.map mk) ((qs.map mk).length : Int) (qs.length : Int)) (if (qs.drop qs.length).all okOf = true then (qs.map nOf, true) else (([] : List Int), false)) := by
    refine Ev.step (f := fun k => _) (fun k => by rw [impl_readNumbers.l0]) (ifn (by omega) ?_)
    rw [List.take_length, List.drop_length]
    exact now
  induction n with
  | zero =>
    intro i h1 h2
    obtain rfl : i = qs.length := by omega
    exact stop
  | succ n ih =>
    intro i h1 h2
    by_cases hi : i < qs.length
    · have hnext := ih (i + 1) (by omega) (by omega)
      have hw : wrap64 ((i : Int) + 1) = ((i + 1 : Nat) : Int) := by rw [w64 _ (by omega)]; omega
      refine Ev.step (f := fun k => _) (fun k => by rw [impl_readNumbers.l0]) (ifp (by omega) (ifp (by omega) (ifp (by omega) ?_)))
      rw [rdOf_mk qs i hi, List.drop_eq_getElem_cons hi, List.all_cons]
      refine call (readNumber qs[i] (hq _ (List.getElem_mem hi))) ?_
      cases ho : okOf qs[i] with
      | false =>
        refine ifn (by show ¬ okOf qs[i] = true; rw [ho]; simp) (evEq now ?_)
        rfl
      | true =>
        refine ifp (by show okOf qs[i] = true; exact ho) (ifp (by rw [List.length_map, List.length_take]; omega) ?_)
        rw [hw, Bool.true_and]
        rw [List.take_add_one, List.getElem?_eq_getElem hi, List.map_append] at hnext
        exact hnext
    · obtain rfl : i = qs.length := by omega
      exact stop
theorem readNumbers (p : List UInt8) (c : UInt8) (h : p.length ≤ 2000000) : Ev (fun k => impl_readNumbers.f k (mk p) ⟨#[c]⟩) (if (parts c p).all okOf = true then ((parts c p).map nOf, true) else (([] : List Int), false)) := by
  obtain ⟨h1, h2⟩ := parts_le c p
  unfold impl_readNumbers.f
  refine call (split p c h) ?_
  have := readNumbers_l (parts c p) (fun q hq => Nat.le_trans (h1 q hq) h) (by omega) _ 0 (Nat.zero_le _) (Nat.le_refl _)
  rw [List.drop_zero] at this
  exact this
theorem okOf_read (q : List UInt8) (n : Int) (h0 : 0 ≤ n) (h1 : n < 1000000) : (okOf q = true ∧ nOf q = n) ↔ readT q = n := by
  rw [← readNumber_read q n h0 h1]
  unfold okOf nOf
  constructor
  · rintro ⟨a, b⟩; exact Prod.ext b a
  · intro e; rw [e]; exact ⟨rfl, rfl⟩
end Go.Proofs.YtnbolemfldmohaaDoor.Pa
namespace Go.Proofs.YtnbolemfldmohaaDoor.Pr
open Go.RowKit Go.Proofs.YtnbolemfldmohaaDoor.P Go.Proofs.YtnbolemfldmohaaDoorW.PrintWords Go.Proofs.YtnbolemfldmohaaDoor.E
abbrev Rt := S37
theorem rdR (l : List Rt) (i : Nat) (h : i < l.length) : rd_T37 l (i : Int) = l[i] := by simp [rd_T37, List.getD_eq_getElem?_getD, List.getElem?_eq_getElem h]
def marksR (n : Nat) (m : Int) : List Rt := (List.range n).map fun i : Nat => ⟨m + 2 * (i : Int), m + 2 * (i : Int) + 1⟩
theorem marksR_length (n : Nat) (m : Int) : (marksR n m).length = n := by simp [marksR]
theorem marksR_get (n : Nat) (m : Int) (i : Nat) (h : i < n) : (marksR n m)[i]'(by rw [marksR_length]; exact h) = ⟨m + 2 * (i : Int), m + 2 * (i : Int) + 1⟩ := by simp [marksR]
theorem eqRatio (a b : Int) : laws_eqRatio.f a b a b = some true := by simp [laws_eqRatio.f]
theorem eqRatioS_l (l : List Rt) (hl : l.length ≤ 1099511627776) (n : Nat) : ∀ i : Nat, i ≤ l.length → l.length - i ≤ n → Ev (fun k => laws_eqRatioS.l0 k l l (i : Int)) true := by
  induction n with
  | zero =>
    intro i h1 h2
    exact Ev.step (f := fun k => _) (fun k => by rw [laws_eqRatioS.l0]) (ifn (by omega) now)
  | succ n ih =>
    intro i h1 h2
    by_cases hi : i < l.length
    · refine Ev.step (f := fun k => _) (fun k => by rw [laws_eqRatioS.l0]) (ifp (by omega) (ifp (by omega) (ifp (by omega) (call (eqRatio _ _) (ifp rfl ?_)))))
      rw [w64 _ (by omega)]
      exact ih (i + 1) (by omega) (by omega)
    · exact Ev.step (f := fun k => _) (fun k => by rw [laws_eqRatioS.l0]) (ifn (by omega) now)
theorem eqRatioS (l : List Rt) (hl : l.length ≤ 1099511627776) : Ev (fun k => laws_eqRatioS.f k l l) true := by
  unfold laws_eqRatioS.f
  exact ifp rfl (eqRatioS_l l hl _ 0 (by omega) (Nat.le_refl _))
theorem setR_mid (l : List Rt) (m : Int) (i : Nat) (h : i < l.length) (x : Rt) : (marksR i m ++ l.drop i).set i x = marksR i m ++ x :: l.drop (i + 1) := by
  rw [List.set_append_right _ _ (by rw [marksR_length]; exact Nat.le_refl _), marksR_length, Nat.sub_self, List.drop_eq_getElem_cons h, List.set_cons_zero]
theorem setR_mid2 (l : List Rt) (m : Int) (i : Nat) (x y : Rt) : (marksR i m ++ y :: l.drop (i + 1)).set i x = marksR i m ++ x :: l.drop (i + 1) := by
  rw [List.set_append_right _ _ (by rw [marksR_length]; exact Nat.le_refl _), marksR_length, Nat.sub_self, List.set_cons_zero]
theorem marksR_succ (l : List Rt) (m : Int) (i : Nat) : marksR i m ++ (⟨m + 2 * (i : Int), m + 2 * (i : Int) + 1⟩ : Rt) :: l.drop (i + 1) = marksR (i + 1) m ++ l.drop (i + 1) := by
  simp [marksR, List.range_succ]
theorem markRatioS_l (l : List Rt) (hl : l.length ≤ 1099511627776) (m : Int) (hm : m.natAbs ≤ 4611686018427387904) (n : Nat) : ∀ i : Nat, i ≤ l.length → l.length - i ≤ n →
    Ev (fun k => laws_markRatioS.l0 k (marksR i m ++ l.drop i) (m + 2 * i) (i : Int)) (m + 2 * l.length, marksR l.length m) := by
  have hlen : ∀ i, i ≤ l.length → (marksR i m ++ l.drop i).length = l.length := fun i h => by rw [List.length_append, marksR_length, List.length_drop]; omega
  have stop : Ev (fun k => laws_markRatioS.l0 k (marksR l.length m ++ l.drop l.length) (m + 2 * l.length) (l.length : Int)) (m + 2 * l.length, marksR l.length m) := by
    have h := hlen l.length (Nat.le_refl _)
    refine Ev.step (f := fun k => _) (fun k => by rw [laws_markRatioS.l0]) (ifn (by omega) (evEq now ?_))
    rw [List.drop_length, List.append_nil]
  induction n with
  | zero =>
    intro i h1 h2
    obtain rfl : i = l.length := by omega
    exact stop
  | succ n ih =>
    intro i h1 h2
    by_cases hi : i < l.length
    · have h := hlen i h1
      refine Ev.step (f := fun k => _) (fun k => by rw [laws_markRatioS.l0]) (ifp (by omega) (ifp (by omega) (call rfl ?_)))
      rw [w64 (m + 2 * i + 1) (by omega), w64 (i + 1) (by omega), w64 _ (by omega), Int.toNat_natCast, setR_mid l m i hi, setR_mid2, rdR _ i (by simp [marksR_length])]
      rw [List.getElem_append_right (by rw [marksR_length]; exact Nat.le_refl _)]
      simp only [marksR_length, Nat.sub_self, List.getElem_cons_zero]
      rw [marksR_succ]
      have := ih (i + 1) (by omega) (by omega)
      rw [show m + 2 * ((i + 1 : Nat) : Int) = m + 2 * (i : Int) + 1 + 1 by omega] at this
      exact this
    · obtain rfl : i = l.length := by omega
      exact stop
theorem markRatioS (l : List Rt) (hl : l.length ≤ 1099511627776) (m : Int) (hm : m.natAbs ≤ 4611686018427387904) : Ev (fun k => laws_markRatioS.f k l m) (m + 2 * l.length, marksR l.length m) := by
  have := markRatioS_l l hl m hm _ 0 (by omega) (Nat.le_refl _)
  simpa [marksR, laws_markRatioS.f] using this
theorem heldRatioS_l (N : Nat) (hl : N ≤ 1099511627776) (m : Int) (hm : m.natAbs ≤ 4611686018427387904) (n : Nat) : ∀ i : Nat, i ≤ N → N - i ≤ n → Ev (fun k => laws_heldRatioS.l0 k (marksR N m) (m + 2 * i) (i : Int)) (m + 2 * N) := by
  have stop : Ev (fun k => laws_heldRatioS.l0 k (marksR N m) (m + 2 * N) (N : Int)) (m + 2 * N) :=
    Ev.step (f := fun k => _) (fun k => by rw [laws_heldRatioS.l0]) (ifn (by rw [marksR_length]; omega) now)
  induction n with
  | zero =>
    intro i h1 h2
    obtain rfl : i = N := by omega
    exact stop
  | succ n ih =>
    intro i h1 h2
    by_cases hi : i < N
    · have e : rd_T37 (marksR N m) (i : Int) = ⟨m + 2 * (i : Int), m + 2 * (i : Int) + 1⟩ := by
        rw [rdR _ _ (by rw [marksR_length]; exact hi), marksR_get N m i hi]
      refine Ev.step (f := fun k => _) (fun k => by rw [laws_heldRatioS.l0]) (ifp (by rw [marksR_length]; omega) (ifp (by omega) ?_))
      rw [e]
      refine ifp rfl (ifp ?_ ?_)
      · rw [w64 _ (by omega)]
      · rw [w64 (m + 2 * i + 1) (by omega), w64 (i + 1) (by omega), w64 _ (by omega)]
        have := ih (i + 1) (by omega) (by omega)
        rw [show m + 2 * ((i + 1 : Nat) : Int) = m + 2 * (i : Int) + 1 + 1 by omega] at this
        exact this
    · obtain rfl : i = N := by omega
      exact stop
theorem heldRatioS (N : Nat) (hl : N ≤ 1099511627776) (m : Int) (hm : m.natAbs ≤ 4611686018427387904) : Ev (fun k => laws_heldRatioS.f k (marksR N m) m) (m + 2 * N) := by
  have := heldRatioS_l N hl m hm _ 0 (by omega) (Nat.le_refl _)
  simpa [laws_heldRatioS.f] using this
end Go.Proofs.YtnbolemfldmohaaDoor.Pr
namespace Go.Proofs.YtnbolemfldmohaaDoor.Pr
open Go.RowKit Go.Proofs.YtnbolemfldmohaaDoor.P Go.Proofs.YtnbolemfldmohaaDoorW.PrintWords
theorem l1In (a lo hi : Int) : spec_l1In.f a lo hi = some (decide (lo ≤ a ∧ a ≤ hi)) := by
  unfold spec_l1In.f
  by_cases h : a ≥ lo
  · rw [if_pos h]; congr 1; simp; omega
  · rw [if_neg h]; congr 1; simp; omega
theorem between (a lo hi : Int) : impl_between.f a lo hi = some (decide (lo ≤ a ∧ a ≤ hi)) := l1In a lo hi
def good (a b : Int) : Bool := decide ((1 ≤ a ∧ a ≤ 100) ∧ 1 ≤ b ∧ b ≤ 100)
theorem isRatio (a b : Int) : impl_IsRatio.f a b = some (good a b) := by
  unfold impl_IsRatio.f good
  simp only [between, Option.bind_some]
  by_cases h : 1 ≤ a ∧ a ≤ 100 <;> simp [h]
theorem raGood (a b : Int) : spec_raGood.f a b = some (good a b) := isRatio a b
theorem good_iff (a b : Int) : good a b = true ↔ 1 ≤ a ∧ a ≤ 100 ∧ 1 ≤ b ∧ b ≤ 100 := by unfold good; simp; omega
end Go.Proofs.YtnbolemfldmohaaDoor.Pr
namespace Go.Proofs.YtnbolemfldmohaaDoor.Pr
open Go.RowKit Go.Proofs.YtnbolemfldmohaaDoor.P Go.Proofs.YtnbolemfldmohaaDoorW.PrintWords Go.Proofs.YtnbolemfldmohaaDoor.E
theorem one_iff (x : Rt) : impl_areRatios.one x = true ↔ 1 ≤ x.f0 ∧ x.f0 ≤ 100 ∧ 1 ≤ x.f1 ∧ x.f1 ≤ 100 := by unfold impl_areRatios.one; simp; omega
theorem one_good (x : Rt) : impl_areRatios.one x = good x.f0 x.f1 := by rw [Bool.eq_iff_iff, one_iff, good_iff]
/-- Is it a chain of ratios? -/
def chain (l : List Rt) : Bool := decide (1 ≤ l.length ∧ l.length ≤ 6) && l.all impl_areRatios.one
theorem chain_iff (l : List Rt) : chain l = true ↔ (1 ≤ l.length ∧ l.length ≤ 6) ∧ ∀ x ∈ l, 1 ≤ x.f0 ∧ x.f0 ≤ 100 ∧ 1 ≤ x.f1 ∧ x.f1 ≤ 100 := by
  unfold chain
  rw [Bool.and_eq_true, decide_eq_true_iff, List.all_eq_true]
  simp only [one_iff]
theorem areRatios (l : List Rt) : impl_areRatios.f l = some (chain l) := rfl
theorem raChain_l (l : List Rt) (hl : l.length ≤ 1073741824) (n : Nat) : ∀ i : Nat, i ≤ l.length → l.length - i ≤ n → Ev (fun k => spec_raChain.l0 k l (l.length : Int) (i : Int)) ((l.drop i).all impl_areRatios.one) := by
  have stop : Ev (fun k => spec_raChain.l0 k l (l.length : Int) (l.length : Int)) ((l.drop l.length).all impl_areRatios.one) := by
    refine Ev.step (f := fun k => _) (fun k => by rw [spec_raChain.l0]) (ifn (by omega) (evEq now ?_))
    simp
  induction n with
  | zero =>
    intro i h1 h2
    obtain rfl : i = l.length := by omega
    exact stop
  | succ n ih =>
    intro i h1 h2
    by_cases hi : i < l.length
    · refine Ev.step (f := fun k => _) (fun k => by rw [spec_raChain.l0]) (ifp (by omega) (ifp (by omega) (ifp (by omega) ?_)))
      rw [rdR l i hi, w64 _ (by omega), List.drop_eq_getElem_cons hi, List.all_cons, one_good]
      refine call (raGood _ _) ?_
      cases h : good l[i].f0 l[i].f1 with
      | true => exact ifp rfl (evEq (ih (i + 1) (by omega) (by omega)) (by simp))
      | false => exact ifn (by simp) (evEq now (by simp))
    · obtain rfl : i = l.length := by omega
      exact stop
theorem raChain (l : List Rt) (hl : l.length ≤ 1073741824) : Ev (fun k => spec_raChain.f k l) (chain l) := by
  unfold spec_raChain.f chain
  refine call (l1In _ _ _) ?_
  by_cases h : 1 ≤ l.length ∧ l.length ≤ 6
  · refine ifp (by simp; omega) (evEq (raChain_l l hl _ 0 (by omega) (Nat.le_refl _)) ?_)
    rw [decide_eq_true h]; simp
  · refine ifn (by simp; omega) (evEq now ?_)
    rw [decide_eq_false h]; simp
end Go.Proofs.YtnbolemfldmohaaDoor.Pr
namespace Go.Proofs.YtnbolemfldmohaaDoor.Pure
open Go.RowKit Go.Proofs.YtnbolemfldmohaaDoor.P Go.Proofs.YtnbolemfldmohaaDoor.Pr Go.Proofs.YtnbolemfldmohaaDoor.E Go.Proofs.YtnbolemfldmohaaDoorW.PrintWords Go.Proofs.YtnbolemfldmohaaDoor.Tx Go.Proofs.YtnbolemfldmohaaDoor.Pa
abbrev Res := List Rt × Bool
def fin (ys : List Rt) : Res := if chain ys = true then (ys, true) else ([], false)
/-- What the program does with the pieces that are left. -/
def runI (ys : List Rt) : List (List UInt8) → Res
  | [] => fin ys
  | p :: r => if (parts 58 p).all okOf = true then (if (parts 58 p).length = 2 then (if ys.length = 6 then ([], false) else runI (ys ++ [⟨nOf ((parts 58 p).getD 0 []), nOf ((parts 58 p).getD 1 [])⟩]) r) else ([], false)) else ([], false)
/-- What the reference does with them. -/
def runS (ys : List Rt) : List (List UInt8) → Res
  | [] => fin ys
  | p :: r => if (parts 58 p).length = 2 then runS (ys ++ [⟨readT ((parts 58 p).getD 0 []), readT ((parts 58 p).getD 1 [])⟩]) r else ([], false)
def okL (ys : List Rt) : Prop := ys.length ≤ 6 ∧ ∀ x ∈ ys, 1 ≤ x.f0 ∧ x.f0 ≤ 100 ∧ 1 ≤ x.f1 ∧ x.f1 ≤ 100
theorem fin_bad (ys : List Rt) (h : ¬ okL ys) : fin ys = ([], false) := by
  unfold fin
  rw [if_neg]
  intro e
  have := (chain_iff ys).1 e
  exact h ⟨this.1.2, this.2⟩
theorem okL_left (ys zs : List Rt) (h : okL (ys ++ zs)) : okL ys := ⟨by have := h.1; rw [List.length_append] at this; omega, fun x hx => h.2 x (List.mem_append_left _ hx)⟩
theorem runI_bad (P : List (List UInt8)) : ∀ ys, ¬ okL ys → runI ys P = ([], false) := by
  induction P with
  | nil => exact fin_bad
  | cons p r ih =>
    intro ys h
    unfold runI
    split
    · split
      · split
        · rfl
        · exact ih _ fun e => h (okL_left _ _ e)
      · rfl
    · rfl
theorem runS_bad (P : List (List UInt8)) : ∀ ys, ¬ okL ys → runS ys P = ([], false) := by
  induction P with
  | nil => exact fin_bad
  | cons p r ih =>
    intro ys h
    unfold runS
    split
    · exact ih _ fun e => h (okL_left _ _ e)
    · rfl
theorem two_of {α : Type} (L : List α) (h : L.length = 2) : ∃ a b, L = [a, b] := by
  match L, h with
  | [a, b], _ => exact ⟨a, b, rfl⟩
theorem run_eq (P : List (List UInt8)) : ∀ ys, runI ys P = runS ys P := by
  induction P with
  | nil => intro ys; rfl
  | cons p r ih =>
    intro ys
    by_cases hy : okL ys
    · by_cases h2 : (parts 58 p).length = 2
      · obtain ⟨q0, q1, e⟩ := two_of _ h2
        have eI : runI ys (p :: r) = if (okOf q0 && (okOf q1 && true)) = true then (if ys.length = 6 then ([], false) else runI (ys ++ [⟨nOf q0, nOf q1⟩]) r) else ([], false) := by
          rw [runI, e]
          simp only [List.all_cons, List.all_nil, List.length_cons, List.length_nil, List.getD_cons_zero, List.getD_cons_succ]
          rfl
        have eS : runS ys (p :: r) = runS (ys ++ [⟨readT q0, readT q1⟩]) r := by
          rw [runS, e]
          rfl
        rw [eI, eS]
        by_cases hg : (1 ≤ readT q0 ∧ readT q0 ≤ 100) ∧ 1 ≤ readT q1 ∧ readT q1 ≤ 100
        · obtain ⟨o0, n0⟩ := (okOf_read q0 (readT q0) (by omega) (by omega)).2 rfl
          obtain ⟨o1, n1⟩ := (okOf_read q1 (readT q1) (by omega) (by omega)).2 rfl
          rw [o0, o1, n0, n1, if_pos (show (true && (true && true)) = true from rfl)]
          by_cases h6 : ys.length = 6
          · rw [if_pos h6]
            exact (runS_bad r _ fun e => by have := e.1; rw [List.length_append, List.length_singleton] at this; omega).symm
          · rw [if_neg h6]
            exact ih _
        · have hb : ¬ okL (ys ++ [(⟨readT q0, readT q1⟩ : Rt)]) := fun e => hg (by
            have := e.2 ⟨readT q0, readT q1⟩ (List.mem_append_right _ (List.mem_singleton_self _))
            exact ⟨⟨this.1, this.2.1⟩, this.2.2⟩)
          rw [runS_bad r _ hb]
          split
          · rename_i ho
            have ho0 : okOf q0 = true := by
              rw [Bool.and_eq_true] at ho; exact ho.1
            have ho1 : okOf q1 = true := by
              rw [Bool.and_true, Bool.and_eq_true] at ho; exact ho.2
            split
            · rfl
            · refine runI_bad r _ fun e => hg ?_
              have this : 1 ≤ nOf q0 ∧ nOf q0 ≤ 100 ∧ 1 ≤ nOf q1 ∧ nOf q1 ≤ 100 := e.2 ⟨nOf q0, nOf q1⟩ (List.mem_append_right _ (List.mem_singleton_self _))
              have t0 := (okOf_read q0 (nOf q0) (by omega) (by omega)).1 ⟨ho0, rfl⟩
              have t1 := (okOf_read q1 (nOf q1) (by omega) (by omega)).1 ⟨ho1, rfl⟩
              rw [t0, t1]
              exact ⟨⟨this.1, this.2.1⟩, this.2.2⟩
          · rfl
      · rw [runI, runS, if_neg h2, if_neg h2]
        split <;> rfl
    · rw [runI_bad _ _ hy, runS_bad _ _ hy]
theorem runS_shape (P : List (List UInt8)) : ∀ ys, runS ys P = ([], false) ∨ ∃ zs, runS ys P = (zs, true) ∧ okL zs ∧ ys.length + P.length ≤ 6 ∧ ∀ p ∈ P, p.length ≤ 7 := by
  induction P with
  | nil =>
    intro ys
    show fin ys = _ ∨ _
    by_cases h : okL ys
    · unfold fin
      split
      · exact .inr ⟨ys, by show fin ys = _; unfold fin; rw [if_pos (by assumption)], h, by have := h.1; simpa using this, fun p hp => by cases hp⟩
      · exact .inl rfl
    · exact .inl (fin_bad ys h)
  | cons p r ih =>
    intro ys
    by_cases h2 : (parts 58 p).length = 2
    · obtain ⟨q0, q1, e⟩ := two_of _ h2
      have eS : runS ys (p :: r) = runS (ys ++ [⟨readT q0, readT q1⟩]) r := by
        rw [runS, e]
        rfl
      rw [eS]
      rcases ih (ys ++ [⟨readT q0, readT q1⟩]) with h | ⟨zs, hz, ho, hl, hp⟩
      · exact .inl h
      · refine .inr ⟨zs, hz, ho, by rw [List.length_append, List.length_singleton] at hl; simp; omega, fun x hx => ?_⟩
        rcases List.mem_cons.1 hx with rfl | hx
        · have hok : okL (ys ++ [(⟨readT q0, readT q1⟩ : Rt)]) := by
            rcases Classical.em (okL (ys ++ [(⟨readT q0, readT q1⟩ : Rt)])) with hk | hk
            · exact hk
            · rw [runS_bad r _ hk] at hz
              exact absurd (Prod.mk.inj hz).2 (by simp)
          have hr : 1 ≤ readT q0 ∧ readT q0 ≤ 100 ∧ 1 ≤ readT q1 ∧ readT q1 ≤ 100 := hok.2 ⟨readT q0, readT q1⟩ (List.mem_append_right _ (List.mem_singleton_self _))
          have l0 := (readT_num q0 (by omega)).1
          have l1 := (readT_num q1 (by omega)).1
          have d0 := digits_len 2 (readT q0).toNat (by omega)
          have d1 := digits_len 2 (readT q1).toNat (by omega)
          have s := parts_sum 58 x
          rw [e] at s
          have k0 : q0.length ≤ 3 := by rw [l0]; exact d0
          have k1 : q1.length ≤ 3 := by rw [l1]; exact d1
          simp at s
          omega
        · exact hp x hx
    · rw [runS, if_neg h2]
      exact .inl rfl
theorem impl_l (P : List (List UInt8)) (hP : ∀ p ∈ P, p.length ≤ 2000000) (hl : P.length ≤ 2000001) (n : Nat) : ∀ (i : Nat) (ys : List Rt), i ≤ P.length → P.length - i ≤ n → ys.length ≤ i →
    Ev (fun k => impl_ParseRatios.l0 k ys (P.map mk) ((P.map mk).length : Int) (i : Int)) (runI ys (P.drop i)) := by
  have hm : (P.map mk).length = P.length := List.length_map ..
  have stop : ∀ ys : List Rt, Ev (fun k => impl_ParseRatios.l0 k ys (P.map mk) ((P.map mk).length : Int) (P.length : Int)) (runI ys (P.drop P.length)) := by
    intro ys
    refine Ev.step (f := fun k => _) (fun k => by rw [impl_ParseRatios.l0]) (ifn (by omega) (call (areRatios ys) ?_))
    rw [List.drop_length]
    show Ev _ (fin ys)
    unfold fin
    cases h : chain ys with
    | true => exact ifp rfl (evEq now (by rw [if_pos rfl]))
    | false => exact ifn (by simp) (evEq now (by rw [if_neg (by simp)]))
  induction n with
  | zero =>
    intro i ys h1 h2 h3
    obtain rfl : i = P.length := by omega
    exact stop ys
  | succ n ih =>
    intro i ys h1 h2 h3
    by_cases hi : i < P.length
    · have hw : wrap64 ((i : Int) + 1) = ((i + 1 : Nat) : Int) := by rw [w64 _ (by omega)]; omega
      refine Ev.step (f := fun k => _) (fun k => by rw [impl_ParseRatios.l0]) (ifp (by omega) (ifp (by omega) (ifp (by omega) ?_)))
      rw [rdOf_mk P i hi, List.drop_eq_getElem_cons hi]
      refine Ev.bind (readNumbers P[i] 58 (hP _ (List.getElem_mem hi))) ?_
      unfold runI
      by_cases ho : (parts 58 P[i]).all okOf = true
      · rw [if_pos ho, if_pos ho]
        refine ifp rfl ?_
        rw [List.length_map]
        by_cases h2 : (parts 58 P[i]).length = 2
        · obtain ⟨q0, q1, e⟩ := two_of _ h2
          rw [if_pos h2, e]
          refine ifp rfl ?_
          by_cases h6 : ys.length = 6
          · rw [if_pos h6]
            exact ifp (by omega) now
          · rw [if_neg h6]
            refine ifn (by omega) (ifp (by simp) (ifp (by simp) (ifp (by omega) ?_)))
            rw [hw]
            exact ih (i + 1) _ (by omega) (by omega) (by simp; omega)
        · rw [if_neg h2]
          exact ifn (by omega) now
      · rw [if_neg ho, if_neg ho]
        exact ifn (by simp) now
    · obtain rfl : i = P.length := by omega
      exact stop ys
theorem spec_l (P : List (List UInt8)) (hP : ∀ p ∈ P, p.length ≤ 2000000) (hl : P.length ≤ 2000001) (n : Nat) : ∀ (i : Nat) (ys : List Rt), i ≤ P.length → P.length - i ≤ n → ys.length ≤ i →
    Ev (fun k => spec_raParse.l0 k ys (P.map mk) ((P.map mk).length : Int) (i : Int)) (runS ys (P.drop i)) := by
  have hm : (P.map mk).length = P.length := List.length_map ..
  have stop : ∀ ys : List Rt, ys.length ≤ P.length → Ev (fun k => spec_raParse.l0 k ys (P.map mk) ((P.map mk).length : Int) (P.length : Int)) (runS ys (P.drop P.length)) := by
    intro ys hy
    refine Ev.step (f := fun k => _) (fun k => by rw [spec_raParse.l0]) (ifn (by omega) (Ev.bind (raChain ys (by omega)) ?_))
    rw [List.drop_length]
    show Ev _ (fin ys)
    unfold fin
    cases h : chain ys with
    | true => exact ifp rfl (evEq now (by rw [if_pos rfl]))
    | false => exact ifn (by simp) (evEq now (by rw [if_neg (by simp)]))
  induction n with
  | zero =>
    intro i ys h1 h2 h3
    obtain rfl : i = P.length := by omega
    exact stop ys h3
  | succ n ih =>
    intro i ys h1 h2 h3
    by_cases hi : i < P.length
    · have hw : wrap64 ((i : Int) + 1) = ((i + 1 : Nat) : Int) := by rw [w64 _ (by omega)]; omega
      have hpl := hP _ (List.getElem_mem hi)
      refine Ev.step (f := fun k => _) (fun k => by rw [spec_raParse.l0]) (ifp (by omega) (ifp (by omega) (ifp (by omega) ?_)))
      rw [rdOf_mk P i hi, List.drop_eq_getElem_cons hi]
      refine Ev.bind (l1Split P[i] 58 hpl) ?_
      rw [List.length_map]
      unfold runS
      by_cases h2 : (parts 58 P[i]).length = 2
      · have hq := (parts_le 58 P[i]).1
        obtain ⟨q0, q1, e⟩ := two_of _ h2
        rw [if_pos h2]
        rw [e] at hq ⊢
        have e0 : rdOf ByteArray.empty ([q0, q1].map mk) 0 = mk q0 := rdOf_mk [q0, q1] 0 (by simp)
        have e1 : rdOf ByteArray.empty ([q0, q1].map mk) 1 = mk q1 := rdOf_mk [q0, q1] 1 (by simp)
        have k0 := hq q0 (by simp)
        have k1 := hq q1 (by simp)
        refine ifp rfl (ifp (by simp) ?_)
        rw [e0, e1]
        refine Ev.bind (l1Read q0 (by omega)) (ifp (by simp) (Ev.bind (l1Read q1 (by omega)) (ifp (by omega) ?_)))
        rw [hw]
        exact ih (i + 1) _ (by omega) (by omega) (by simp; omega)
      · rw [if_neg h2]
        exact ifn (by omega) now
    · obtain rfl : i = P.length := by omega
      exact stop ys h3
theorem ParseRatios_both (l : List UInt8) (hl : l.length ≤ 1048576) : ∃ v : Res, v.1.length ≤ 1048576 ∧ Ev (fun k => spec_ParseRatios.f k (mk l)) v ∧ Ev (fun k => impl_ParseRatios.f k (mk l)) v := by
  obtain ⟨p1, p2⟩ := parts_le 44 l
  have hP : ∀ p ∈ parts 44 l, p.length ≤ 2000000 := fun p hp => Nat.le_trans (p1 p hp) (by omega)
  have hi := impl_l (parts 44 l) hP (by omega) _ 0 [] (Nat.zero_le _) (Nat.le_refl _) (Nat.le_refl _)
  have hs := spec_l (parts 44 l) hP (by omega) _ 0 [] (Nat.zero_le _) (Nat.le_refl _) (Nat.le_refl _)
  rw [List.drop_zero] at hi hs
  rw [run_eq] at hi
  have hsh := runS_shape (parts 44 l) []
  refine ⟨runS [] (parts 44 l), ?_, ?_, ?_⟩
  · rcases hsh with h | ⟨zs, hz, ho, _, _⟩
    · rw [h]; simp
    · rw [hz]; have := ho.1; show zs.length ≤ _; omega
  · unfold spec_ParseRatios.f spec_raParse.f
    rw [mk_size]
    by_cases h47 : 47 < l.length
    · have : runS [] (parts 44 l) = ([], false) := by
        rcases hsh with h | ⟨zs, hz, ho, hn, hp⟩
        · exact h
        · exfalso
          have s := parts_sum 44 l
          have bd : ∀ L : List (List UInt8), (∀ x ∈ L, x.length ≤ 7) → (L.map fun x => x.length + 1).sum ≤ L.length * 8 := by
            intro L
            induction L with
            | nil => intro _; simp
            | cons y L ih =>
              intro h
              have a := h y (List.mem_cons_self ..)
              have b := ih fun z hz => h z (List.mem_cons_of_mem _ hz)
              rw [List.map_cons, List.sum_cons, List.length_cons]
              omega
          have := bd _ hp
          simp at hn
          omega
      rw [this]
      exact Ev.bind (a := (([] : List Rt), false)) (ifp (by omega) now) now
    · refine Ev.bind (a := runS [] (parts 44 l)) (ifn (by omega) (Ev.bind (l1Split l 44 (by omega)) hs)) ?_
      exact now
  · unfold impl_ParseRatios.f
    exact call (split l 44 (by omega)) hi
theorem FnExactParseRatios : laws_FnExactParseRatios.Pure := by
  intro a _
  obtain ⟨l, rfl⟩ : ∃ l, a = mk l := ⟨a.data.toList, (mk_of a).symm⟩
  refine Ev.rounds ?_
  unfold laws_FnExactParseRatios.f
  rw [mk_size]
  by_cases hs : l.length ≤ 1048576
  · refine ifn (by omega) ?_
    obtain ⟨v, hv, e1, e2⟩ := ParseRatios_both l hs
    refine Ev.bind e1 (Ev.bind e2 (Ev.bind (eqRatioS v.1 (by omega)) (ifp rfl ?_)))
    refine Ev.step (f := fun k => _) (fun k => by rw [laws_FnExactParseRatios.j0]) (ifn (by simp) ?_)
    refine Ev.bind (markRatioS v.1 (by omega) 1 (by decide)) (Ev.bind (heldRatioS v.1.length (by omega) 1 (by decide)) (ifn (by omega) (ifp rfl ?_)))
    refine Ev.bind e2 (Ev.bind (eqRatioS v.1 (by omega)) (ifp rfl ?_))
    refine Ev.step (f := fun k => _) (fun k => by rw [laws_FnExactParseRatios.j1]) (ifn (by simp) ?_)
    exact Ev.bind (heldRatioS v.1.length (by omega) 1 (by decide)) (ifn (by omega) (ifp rfl now))
  · exact ifp (by omega) now
end Go.Proofs.YtnbolemfldmohaaDoor.Pure
