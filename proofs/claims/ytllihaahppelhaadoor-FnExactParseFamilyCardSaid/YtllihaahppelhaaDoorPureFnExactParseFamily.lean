/- The program's ParseFamily tells what the reference's tells, for all texts. No condition. -/
import Derived.Test.YtllihaahppelhaaDoorPx15
import Derived.Test.YtllihaahppelhaaDoorPx3
import Derived.Test.YtllihaahppelhaaDoorPx14
import Derived.Test.YtllihaahppelhaaDoorPxHimplqreadNumber
import Derived.Test.YtllihaahppelhaaDoorPx2
import Derived.Test.YtllihaahppelhaaDoorPx1
import Derived.Test.YtllihaahppelhaaDoorPxHstringsqSplit
import Derived.Test.YtllihaahppelhaaDoorWWords
import Derived.Lib.Split
import Derived.Lib.SplitLaws
import Derived.Test.YtllihaahppelhaaDoorMk
import Derived.Test.YtllihaahppelhaaDoorEv
import Derived.Test.YtllihaahppelhaaDoorPx11
import Derived.Test.YtllihaahppelhaaDoorPxHstrconvqItoa
import Derived.Test.YtllihaahppelhaaDoorPxHstringsqJoin
import Derived.Lib.Join
import Derived.Lib.ItoaNum
import Derived.Test.YtllihaahppelhaaDoorPx8
import Derived.Test.YtllihaahppelhaaDoorPxHimplqKinqparents
import Derived.Test.YtllihaahppelhaaDoorPx0
namespace Go.Proofs.YtllihaahppelhaaDoor.Pa
open Go.RowKit
/-- The pieces between the instances of c. -/
def parts (c : UInt8) : List UInt8 → List (List UInt8)
  | [] => [[]]
  | b :: l => if b = c then [] :: parts c l else match parts c l with
    | [] => [[b]]
    | x :: r => (b :: x) :: r
theorem parts_ne (c : UInt8) : ∀ l, parts c l ≠ []
  | [] => by simp [parts]
  | b :: l => by
    unfold parts
    split
    · simp
    · split <;> simp
theorem parts_cons_ne (c b : UInt8) (l : List UInt8) (h : b ≠ c) : ∃ x r, parts c l = x :: r ∧ parts c (b :: l) = (b :: x) :: r := by
  obtain ⟨x, r, e⟩ := List.exists_cons_of_ne_nil (parts_ne c l)
  refine ⟨x, r, e, ?_⟩
  rw [parts, if_neg h, e]
theorem parts_cons_eq (c : UInt8) (l : List UInt8) : parts c (c :: l) = [] :: parts c l := by rw [parts, if_pos rfl]
theorem index_cons_ne (b c : UInt8) (l : List UInt8) (h : b ≠ c) : Lib.index (b :: l) [c] = if Lib.index l [c] = -1 then -1 else Lib.index l [c] + 1 := by
  rw [Lib.index, if_neg (by simp [List.isPrefixOf]; exact fun e => h e.symm)]
  by_cases hi : Lib.index l [c] = -1
  · rw [if_pos (by simp [hi]), if_pos hi]
  · rw [if_neg (by simpa using hi), if_neg hi]
theorem index_cons_eq (c : UInt8) (l : List UInt8) : Lib.index (c :: l) [c] = 0 := by
  rw [Lib.index, if_pos (by simp [List.isPrefixOf])]
theorem split_parts (c : UInt8) (l : List UInt8) : Lib.split l [c] = parts c l := by
  unfold Lib.split
  rw [Lib.count_one]
  induction l with
  | nil => rfl
  | cons b l ih =>
    by_cases h : b = c
    · subst h
      rw [List.count_cons_self, Lib.splitK, index_cons_eq, parts_cons_eq, ← ih]
      simp
    · obtain ⟨x, r, e1, e2⟩ := parts_cons_ne c b l h
      rw [List.count_cons_of_ne h, e2]
      rw [e1] at ih
      cases hk : l.count c with
      | zero =>
        rw [hk] at ih
        simp only [Lib.splitK] at ih ⊢
        obtain ⟨rfl, rfl⟩ := List.cons.inj ih
        rfl
      | succ k =>
        rw [hk] at ih
        simp only [Lib.splitK] at ih ⊢
        rw [index_cons_ne b c l h]
        by_cases hi : Lib.index l [c] = -1
        · rw [hi] at ih ⊢
          simp only [beq_self_eq_true, if_true] at ih ⊢
          obtain ⟨rfl, rfl⟩ := List.cons.inj ih
          rfl
        · have h0 := Lib.index_ge l [c]
          rw [if_neg (by simpa using hi)] at ih
          rw [if_neg hi, if_neg (by simp; omega)]
          obtain ⟨e3, e4⟩ := List.cons.inj ih
          rw [← e3, ← e4]
          have e5 : (Lib.index l [c] + 1).toNat = (Lib.index l [c]).toNat + 1 := by omega
          rw [e5]
          simp
end Go.Proofs.YtllihaahppelhaaDoor.Pa
namespace Go.Proofs.YtllihaahppelhaaDoor.Pa
open Go.RowKit Go.Proofs.YtllihaahppelhaaDoor.P Go.Proofs.YtllihaahppelhaaDoorW.PrintWords Go.Proofs.YtllihaahppelhaaDoor.E Go.Proofs.YtllihaahppelhaaDoor.Tx
theorem split (l : List UInt8) (c : UInt8) (h : l.length ≤ 2000000) : strings_Split.f (mk l) ⟨#[c]⟩ = some ((parts c l).map mk) := by
  unfold strings_Split.f
  rw [if_pos ⟨by rw [mk_size]; exact h, (Nat.le_refl 1 : 1 ≤ (ByteArray.mk #[c]).size)⟩]
  have h1 := Lib.splitB_data ⟨#[c]⟩ 0 (Lib.countB (mk l) ⟨#[c]⟩) (mk l)
  rw [mk_list] at h1
  have h2 : Lib.splitK [c] 0 (Lib.count l [c]) l = parts c l := split_parts c l
  have h3 : (Lib.splitB ⟨#[c]⟩ 0 (Lib.countB (mk l) ⟨#[c]⟩) (mk l)).map (fun x : ByteArray => x.data.toList) = parts c l := by
    rw [← h2]
    show _ = Lib.splitK [c] 0 (Lib.count l [c]) l
    rw [h1]
    show Lib.splitK [c] 0 (Lib.count (mk l).data.toList [c]) l = _
    rw [mk_list]
  rw [← h3, List.map_map]
  have : (mk ∘ fun x : ByteArray => x.data.toList) = id := by funext x; exact mk_of x
  rw [this, List.map_id]
/-- The pieces, where the first one has begun. -/
def cont (c : UInt8) (cur rest : List UInt8) : List (List UInt8) := match parts c rest with
  | [] => [cur]
  | x :: r => (cur ++ x) :: r
theorem cont_nil (c : UInt8) (cur : List UInt8) : cont c cur [] = [cur] := by simp [cont, parts]
theorem cont_eq (c : UInt8) (cur rest : List UInt8) : cont c cur (c :: rest) = cur :: cont c [] rest := by
  obtain ⟨x, r, e⟩ := List.exists_cons_of_ne_nil (parts_ne c rest)
  simp [cont, parts_cons_eq, e]
theorem cont_ne (c b : UInt8) (cur rest : List UInt8) (h : b ≠ c) : cont c cur (b :: rest) = cont c (cur ++ [b]) rest := by
  obtain ⟨x, r, e1, e2⟩ := parts_cons_ne c b rest h
  simp [cont, e1, e2]
theorem cont_zero (c : UInt8) (l : List UInt8) : cont c [] l = parts c l := by
  obtain ⟨x, r, e⟩ := List.exists_cons_of_ne_nil (parts_ne c l)
  simp [cont, e]
theorem bt_mk (l : List UInt8) (i : Nat) (h : i < l.length) : bt (mk l) (i : Int) = (l[i].toNat : Int) := by
  have hs : (i : Int).toNat < (mk l).size := by rw [mk_size]; simpa using h
  rw [← bt_at (mk l) (i : Int) hs]
  rfl
theorem ext_mk (l : List UInt8) (a b : Nat) : (mk l).extract a b = mk ((l.take b).drop a) := by
  rw [← mk_of ((mk l).extract a b), Lib.extract_data, mk_list, List.drop_take]
theorem l1Split_l (l : List UInt8) (c : UInt8) (hl : l.length ≤ 2000000) (n : Nat) : ∀ (i from_ : Nat) (out : List ByteArray), i ≤ l.length → l.length - i ≤ n → from_ ≤ i → out.length ≤ i →
    Ev (fun k => spec_l1Split.l0 k (mk l) (c.toNat : Int) out (from_ : Int) (i : Int)) (out ++ (cont c ((l.take i).drop from_) (l.drop i)).map mk) := by
  have stop : ∀ (from_ : Nat) (out : List ByteArray), from_ ≤ l.length → out.length ≤ l.length → Ev (fun k => spec_l1Split.l0 k (mk l) (c.toNat : Int) out (from_ : Int) (l.length : Int)) (out ++ (cont c ((l.take l.length).drop from_) (l.drop l.length)).map mk) := by
    intro f out hf ho
    refine Ev.step (f := fun k => _) (fun k => by rw [spec_l1Split.l0]) (ifn (by rw [mk_size]; omega) ?_)
    rw [List.drop_length, cont_nil]
    refine ifp (by omega) (ifp (by rw [mk_size]; omega) (ifp (by omega) ?_))
    rw [ext_mk, mk_size, Int.toNat_natCast]
    exact now
  induction n with
  | zero =>
    intro i f out h1 h2 h3 h4
    obtain rfl : i = l.length := by omega
    exact stop f out h3 h4
  | succ n ih =>
    intro i f out h1 h2 h3 h4
    by_cases hi : i < l.length
    · have hw : wrap64 ((i : Int) + 1) = ((i + 1 : Nat) : Int) := by rw [w64 _ (by omega)]; omega
      refine Ev.step (f := fun k => _) (fun k => by rw [spec_l1Split.l0]) (ifp (by rw [mk_size]; omega) (ifp (by omega) ?_))
      rw [bt_mk l i hi, hw, List.drop_eq_getElem_cons hi]
      by_cases hb : l[i] = c
      · refine ifp (by rw [hb]) (ifp (by omega) (ifp (by omega) (ifp (by rw [mk_size]; omega) (ifp (by omega) ?_))))
        rw [ext_mk, Int.toNat_natCast, Int.toNat_natCast, hb, cont_eq, List.map_cons]
        have := ih (i + 1) (i + 1) (out ++ [mk ((l.take i).drop f)]) (by omega) (by omega) (Nat.le_refl _) (by simp; omega)
        rw [show (l.take (i + 1)).drop (i + 1) = [] from List.drop_eq_nil_of_le (by rw [List.length_take]; omega), List.append_assoc, List.singleton_append] at this
        exact this
      · refine ifn (by intro e; apply hb; exact UInt8.toNat.inj (by omega)) ?_
        have := ih (i + 1) f out (by omega) (by omega) (by omega) (by omega)
        have e : (l.take (i + 1)).drop f = (l.take i).drop f ++ [l[i]] := by
          rw [List.take_add_one, List.getElem?_eq_getElem hi, List.drop_append_of_le_length (by rw [List.length_take]; omega)]
          rfl
        rw [e] at this
        rw [cont_ne c l[i] _ _ hb]
        exact this
    · obtain rfl : i = l.length := by omega
      exact stop f out h3 h4
theorem l1Split (l : List UInt8) (c : UInt8) (h : l.length ≤ 2000000) : Ev (fun k => spec_l1Split.f k (mk l) (c.toNat : Int)) ((parts c l).map mk) := by
  have := l1Split_l l c h _ 0 0 [] (Nat.zero_le _) (Nat.le_refl _) (Nat.le_refl _) (Nat.zero_le _)
  rw [List.take_zero, List.drop_zero, List.drop_zero, cont_zero, List.nil_append] at this
  exact this
end Go.Proofs.YtllihaahppelhaaDoor.Pa
namespace Go.Proofs.YtllihaahppelhaaDoor.LwI
open Go.Proofs.YtllihaahppelhaaDoor.P
theorem l1In (a lo hi : Int) : spec_l1In.f a lo hi = some (decide (lo ≤ a ∧ a ≤ hi)) := by
  unfold spec_l1In.f
  by_cases h : a ≥ lo
  · rw [if_pos h]; congr 1; simp; omega
  · rw [if_neg h]; congr 1; simp; omega
end Go.Proofs.YtllihaahppelhaaDoor.LwI
namespace Go.Proofs.YtllihaahppelhaaDoor.Pa
open Go.RowKit Go.Proofs.YtllihaahppelhaaDoor.P Go.Proofs.YtllihaahppelhaaDoorW.PrintWords Go.Proofs.YtllihaahppelhaaDoor.E Go.Proofs.YtllihaahppelhaaDoor.Tx
def dgt (b : UInt8) : Bool := decide (48 ≤ b.toNat ∧ b.toNat ≤ 57)
def val (a : Nat) (t : List UInt8) : Nat := t.foldl (fun n b => 10 * n + (b.toNat - 48)) a
/-- What the reference reads. -/
def readT (t : List UInt8) : Int := if (1 ≤ t.length ∧ t.length ≤ 6) ∧ ¬ (t.head? = some 48 ∧ 1 < t.length) then (if t.all dgt = true then (val 0 t : Int) else -1) else -1
theorem val_bd (t : List UInt8) (h : t.all dgt = true) : ∀ a m : Nat, a < 10 ^ m → val a t < 10 ^ (m + t.length) := by
  induction t with
  | nil => intro a m h; simpa [val] using h
  | cons b t ih =>
    intro a m ha
    rw [List.all_cons, Bool.and_eq_true] at h
    have hd := of_decide_eq_true h.1
    have := ih h.2 (10 * a + (b.toNat - 48)) (m + 1) (by rw [Nat.pow_succ]; omega)
    rw [List.length_cons, show m + (t.length + 1) = m + 1 + t.length by omega]
    exact this
theorem l1Read_l (t : List UInt8) (ht : t.length ≤ 6) (n : Nat) : ∀ (i a : Nat), i ≤ t.length → t.length - i ≤ n → a < 10 ^ i →
    Ev (fun k => spec_l1Read.l0 k (mk t) (a : Int) (i : Int)) (if (t.drop i).all dgt = true then (val a (t.drop i) : Int) else -1) := by
  have stop : ∀ a : Nat, Ev (fun k => spec_l1Read.l0 k (mk t) (a : Int) (t.length : Int)) (if (t.drop t.length).all dgt = true then (val a (t.drop t.length) : Int) else -1) := by
    intro a
    rw [List.drop_length]
    refine Ev.step (f := fun k => _) (fun k => by rw [spec_l1Read.l0]) (ifn (by rw [mk_size]; omega) ?_)
    exact now
  induction n with
  | zero =>
    intro i a h1 h2 _
    obtain rfl : i = t.length := by omega
    exact stop a
  | succ n ih =>
    intro i a h1 h2 ha
    by_cases hi : i < t.length
    · have hp : 10 ^ i ≤ 10 ^ 5 := Nat.pow_le_pow_right (by decide) (by omega)
      have hb : t[i].toNat < 256 := t[i].toNat_lt
      refine Ev.step (f := fun k => _) (fun k => by rw [spec_l1Read.l0]) (ifp (by rw [mk_size]; omega) (ifp (by omega) ?_))
      rw [bt_mk t i hi, List.drop_eq_getElem_cons hi, List.all_cons]
      by_cases h48 : t[i].toNat < 48
      · refine ifp (by omega) (evEq now ?_)
        rw [show dgt t[i] = false from decide_eq_false (by omega)]
        rfl
      · refine ifn (by omega) ?_
        by_cases h57 : 57 < t[i].toNat
        · refine ifp (by omega) (evEq now ?_)
          rw [show dgt t[i] = false from decide_eq_false (by omega)]
          rfl
        · refine ifn (by omega) ?_
          have e : wrap64 (wrap64 (10 * (a : Int)) + ((t[i].toNat : Int) - 48) % 256) = ((10 * a + (t[i].toNat - 48) : Nat) : Int) := by
            rw [w64 (10 * (a : Int)) (by omega), w64 _ (by omega)]
            omega
          have hw : wrap64 ((i : Int) + 1) = ((i + 1 : Nat) : Int) := by rw [w64 _ (by omega)]; omega
          rw [e, hw, show dgt t[i] = true from decide_eq_true (by omega), Bool.true_and]
          exact ih (i + 1) (10 * a + (t[i].toNat - 48)) (by omega) (by omega) (by rw [Nat.pow_succ]; omega)
    · obtain rfl : i = t.length := by omega
      exact stop a
theorem l1Read (t : List UInt8) (h : t.length ≤ 2000000) : Ev (fun k => spec_l1Read.f k (mk t)) (readT t) := by
  unfold spec_l1Read.f
  refine call (LwI.l1In _ _ _) ?_
  rw [mk_size]
  by_cases h6 : 1 ≤ t.length ∧ t.length ≤ 6
  · refine ifp (by simp; omega) (ifp (by omega) ?_)
    have h0 : bt (mk t) 0 = (t[0].toNat : Int) := bt_mk t 0 (by omega)
    have hh : t.head? = some t[0] := by
      cases t with
      | nil => simp at h6
      | cons b t => rfl
    have hmain := l1Read_l t h6.2 _ 0 0 (Nat.zero_le _) (Nat.le_refl _) (by decide)
    rw [List.drop_zero] at hmain
    rw [h0]
    by_cases h48 : t[0] = 48
    · refine ifp (by rw [h48]; rfl) ?_
      by_cases h1 : 1 < t.length
      · refine Ev.step (f := fun k => _) (fun k => by rw [spec_l1Read.j0]) (ifp (by simp; omega) (evEq now ?_))
        unfold readT
        rw [if_neg (by intro e; exact e.2 ⟨by rw [hh, h48], h1⟩)]
      · refine Ev.step (f := fun k => _) (fun k => by rw [spec_l1Read.j0]) (ifn (by simp; omega) ?_)
        unfold readT
        rw [if_pos ⟨h6, fun e => h1 e.2⟩]
        exact hmain
    · refine ifn (by intro e; apply h48; exact UInt8.toNat.inj (by have : (48 : UInt8).toNat = 48 := rfl; omega)) ?_
      refine Ev.step (f := fun k => _) (fun k => by rw [spec_l1Read.j0]) (ifn (by simp) ?_)
      unfold readT
      rw [if_pos ⟨h6, fun e => h48 (by rw [hh] at e; exact Option.some.inj e.1)⟩]
      exact hmain
  · refine ifn (by simp; omega) ?_
    refine Ev.step (f := fun k => _) (fun k => by rw [spec_l1Read.j0]) (ifp rfl (evEq now ?_))
    unfold readT
    rw [if_neg (fun e => h6 e.1)]
/-! What is read is the number's own text. -/
theorem dgt_of (b : UInt8) (h : dgt b = true) : b = UInt8.ofNat (48 + (b.toNat - 48)) := by
  have := of_decide_eq_true h
  apply UInt8.toNat.inj
  rw [UInt8.toNat_ofNat']
  omega
theorem val_snoc (a : Nat) (t : List UInt8) (b : UInt8) : val a (t ++ [b]) = 10 * val a t + (b.toNat - 48) := by simp [val]
theorem val_pos (t : List UInt8) (h : t.all dgt = true) (b : UInt8) (hb : t.head? = some b) (h48 : b ≠ 48) : 1 ≤ val 0 t := by
  cases t with
  | nil => cases hb
  | cons c t =>
    obtain rfl := Option.some.inj hb
    rw [List.all_cons, Bool.and_eq_true] at h
    have hd := of_decide_eq_true h.1
    have h1 : 49 ≤ c.toNat := by
      rcases Nat.lt_or_ge c.toNat 49 with hlt | hge
      · exact absurd (UInt8.toNat.inj (show c.toNat = (48 : UInt8).toNat by have : (48 : UInt8).toNat = 48 := rfl; omega)) h48
      · exact hge
    have mono : ∀ (t : List UInt8) (a : Nat), 1 ≤ a → 1 ≤ val a t := by
      intro t
      induction t with
      | nil => intro a ha; exact ha
      | cons d t ih => intro a ha; show 1 ≤ val (10 * a + (d.toNat - 48)) t; exact ih _ (by omega)
    exact mono t (10 * 0 + (c.toNat - 48)) (by omega)
theorem dig_val (m : Nat) : ∀ t : List UInt8, t.length ≤ m → t ≠ [] → t.all dgt = true → ¬ (t.head? = some 48 ∧ 1 < t.length) → Lib.decDigits (val 0 t) = t := by
  induction m with
  | zero => intro t h h0; cases t with | nil => exact absurd rfl h0 | cons b t => simp at h
  | succ m ih =>
    intro t h h0 hd hc
    obtain ⟨s, b, rfl⟩ : ∃ s b, t = s ++ [b] := ⟨t.dropLast, t.getLast h0, (List.dropLast_concat_getLast h0).symm⟩
    rw [List.all_append, Bool.and_eq_true] at hd
    have hb : dgt b = true := by simpa using hd.2
    have hb2 := of_decide_eq_true hb
    rw [val_snoc]
    by_cases hs : s = []
    · subst hs
      show Lib.decDigits (10 * 0 + (b.toNat - 48)) = [b]
      rw [Lib.decDigits, dif_pos (by omega)]
      rw [show 48 + (10 * 0 + (b.toNat - 48)) = 48 + (b.toNat - 48) by omega, ← dgt_of b hb]
    · have hh : (s ++ [b]).head? = s.head? := by
        cases s with
        | nil => exact absurd rfl hs
        | cons c s => rfl
      have hl : 1 < (s ++ [b]).length := by
        have : s.length ≠ 0 := fun e => hs (List.length_eq_zero_iff.1 e)
        rw [List.length_append, List.length_singleton]; omega
      obtain ⟨c, hc0⟩ : ∃ c, s.head? = some c := by
        cases s with
        | nil => exact absurd rfl hs
        | cons c s => exact ⟨c, rfl⟩
      have h48 : c ≠ 48 := by
        intro e
        apply hc
        exact ⟨by rw [hh, hc0, e], hl⟩
      have hp := val_pos s hd.1 c hc0 h48
      rw [Lib.decDigits, dif_neg (by omega)]
      rw [show (10 * val 0 s + (b.toNat - 48)) / 10 = val 0 s by omega, show (10 * val 0 s + (b.toNat - 48)) % 10 = b.toNat - 48 by omega]
      rw [ih s (by rw [List.length_append, List.length_singleton] at h; omega) hs hd.1 (fun e => h48 (by rw [hc0] at e; exact Option.some.inj e.1)), ← dgt_of b hb]
theorem readT_num (t : List UInt8) (h : 0 ≤ readT t) : t = num (readT t) ∧ readT t < 1000000 ∧ t.all dgt = true := by
  unfold readT at h ⊢
  split at h
  · rename_i hc
    rw [if_pos hc]
    split at h
    · rename_i hd
      rw [if_pos hd]
      refine ⟨?_, ?_, hd⟩
      · unfold num
        rw [Int.toNat_natCast]
        exact (dig_val _ t (Nat.le_refl _) (by intro e; rw [e] at hc; simp at hc) hd hc.2).symm
      · have h1 := val_bd t hd 0 0 (by decide)
        have h2 : 10 ^ (0 + t.length) ≤ 10 ^ 6 := Nat.pow_le_pow_right (by decide) (by have := hc.1.2; omega)
        omega
    · omega
  · omega
/-! A number's text is read back. -/
theorem num_dgt (m : Nat) : ∀ u : Nat, u ≤ m → (Lib.decDigits u).all dgt = true ∧ val 0 (Lib.decDigits u) = u ∧ ¬ ((Lib.decDigits u).head? = some 48 ∧ 1 < (Lib.decDigits u).length) := by
  have one : ∀ u : Nat, u < 10 → dgt (UInt8.ofNat (48 + u)) = true ∧ (UInt8.ofNat (48 + u)).toNat = 48 + u := by
    intro u hu
    have e : (UInt8.ofNat (48 + u)).toNat = 48 + u := by rw [UInt8.toNat_ofNat']; omega
    exact ⟨decide_eq_true (by rw [e]; omega), e⟩
  induction m with
  | zero =>
    intro u hu
    obtain rfl : u = 0 := by omega
    rw [Lib.decDigits, dif_pos (by decide)]
    exact ⟨by decide, by decide, by decide⟩
  | succ m ih =>
    intro u hu
    by_cases h : u < 10
    · obtain ⟨h1, h2⟩ := one u h
      rw [Lib.decDigits, dif_pos h]
      refine ⟨by rw [List.all_cons, h1]; rfl, ?_, by simp⟩
      show 10 * 0 + ((UInt8.ofNat (48 + u)).toNat - 48) = u
      rw [h2]; omega
    · obtain ⟨h1, h2⟩ := one (u % 10) (by omega)
      obtain ⟨i1, i2, i3⟩ := ih (u / 10) (by omega)
      have i4 : 0 < (Lib.decDigits (u / 10)).length := by
        rw [Lib.decDigits]
        split <;> simp
      have hne : (Lib.decDigits (u / 10)).head? ≠ some 48 := by
        intro e
        by_cases hl : 1 < (Lib.decDigits (u / 10)).length
        · exact i3 ⟨e, hl⟩
        · have : ∃ b, Lib.decDigits (u / 10) = [b] := by
            cases hq : Lib.decDigits (u / 10) with
            | nil => rw [hq] at i4; simp at i4
            | cons b r =>
              rw [hq] at hl
              cases r with
              | nil => exact ⟨b, rfl⟩
              | cons c r => simp at hl
          obtain ⟨b, hb⟩ := this
          rw [hb] at e i2
          obtain rfl := Option.some.inj e
          have : val 0 [(48 : UInt8)] = 0 := rfl
          omega
      rw [Lib.decDigits, dif_neg h]
      refine ⟨by rw [List.all_append, i1, List.all_cons, h1]; rfl, by rw [val_snoc, i2, h2]; omega, ?_⟩
      intro e
      apply hne
      have : (Lib.decDigits (u / 10) ++ [UInt8.ofNat (48 + u % 10)]).head? = (Lib.decDigits (u / 10)).head? := by
        cases hq : Lib.decDigits (u / 10) with
        | nil => rw [hq] at i4; simp at i4
        | cons b r => rfl
      rw [← this]
      exact e.1
theorem num_read (n : Int) (h0 : 0 ≤ n) (h1 : n < 1000000) : readT (num n) = n := by
  obtain ⟨d1, d2, d3⟩ := num_dgt n.toNat n.toNat (Nat.le_refl _)
  have hl := digits_len 5 n.toNat (by omega)
  have hp := num_pos n
  unfold readT num
  rw [if_pos ⟨⟨hp, hl⟩, d3⟩, if_pos d1, d2]
  omega
theorem parse_val (t : List UInt8) (h : t.all dgt = true) : ∀ a m : Nat, a < 10 ^ m → m + t.length ≤ 18 → Lib.parseUint10 a t = .ok (val a t) := by
  induction t with
  | nil => intro a m _ _; rfl
  | cons b t ih =>
    intro a m ha hm
    rw [List.all_cons, Bool.and_eq_true] at h
    have hd := of_decide_eq_true h.1
    rw [List.length_cons] at hm
    have hp : 10 ^ m ≤ 10 ^ 17 := Nat.pow_le_pow_right (by decide) (by omega)
    rw [Lib.parseUint10, if_pos hd, if_neg (by omega), if_neg (by omega)]
    have := ih h.2 (a * 10 + (b.toNat - 48)) (m + 1) (by rw [Nat.pow_succ]; omega) (by omega)
    rw [this]
    congr 1
    rw [Nat.mul_comm a 10]
    rfl
theorem atoi_num (n : Int) (h0 : 0 ≤ n) (h1 : n < 1000000) : Lib.atoiAll (num n) = .ok n := by
  obtain ⟨d1, d2, d3⟩ := num_dgt n.toNat n.toNat (Nat.le_refl _)
  have hl := digits_len 5 n.toNat (by omega)
  have hp := num_pos n
  have hv := parse_val (num n) d1 0 0 (by decide) (by unfold num; omega)
  have hvn : val 0 (num n) = n.toNat := d2
  rw [hvn] at hv
  unfold Lib.atoiAll
  cases hq : num n with
  | nil => rw [hq] at hp; simp at hp
  | cons c r =>
    have hc : dgt c = true := by
      have : (c :: r).all dgt = true := by rw [← hq]; exact d1
      rw [List.all_cons, Bool.and_eq_true] at this
      exact this.1
    have hd := of_decide_eq_true hc
    simp only
    rw [if_neg (by omega)]
    have hm : Lib.parseMag (c :: r) = .ok n.toNat := by
      unfold Lib.parseMag
      rw [if_neg (by simp), ← hq]
      exact hv
    rw [hm]
    simp only
    rw [if_neg (by omega), if_neg (by omega), if_neg (by omega)]
    congr 1
    omega
theorem toList_mk (t : List UInt8) : (mk t).toList = t := by
  rw [ByteArray.toList_eq]
  exact mk_list t
/-- The program reads a number's own text. -/
theorem readNumber_num (n : Int) (h0 : 0 ≤ n) (h1 : n < 1000000) : impl_readNumber.v (mk (num n)) = (n, true) := by
  unfold impl_readNumber.v
  rw [mk_list, atoi_num n h0 h1]
  simp only
  rw [toList_mk]
  have : Lib.itoa n = num n := by
    unfold Lib.itoa
    rw [if_neg (by omega)]
    rfl
  rw [this]
  simp
/-- What the program reads is the number's own text. -/
theorem readNumber_own (t : List UInt8) (n : Int) (h : impl_readNumber.v (mk t) = (n, true)) : t = Lib.itoa n := by
  unfold impl_readNumber.v at h
  rw [mk_list, toList_mk] at h
  split at h
  · rename_i v hv
    obtain ⟨rfl, h2⟩ := Prod.mk.inj h
    exact (by simpa using h2 : Lib.itoa v = t).symm
  · exact absurd (Prod.mk.inj h).2 (by simp)
  · exact absurd (Prod.mk.inj h).2 (by simp)
theorem readNumber_read (t : List UInt8) (n : Int) (h0 : 0 ≤ n) (h1 : n < 1000000) : impl_readNumber.v (mk t) = (n, true) ↔ readT t = n := by
  constructor
  · intro h
    have e := readNumber_own t n h
    have : Lib.itoa n = num n := by
      unfold Lib.itoa
      rw [if_neg (by omega)]
      rfl
    rw [e, this]
    exact num_read n h0 h1
  · intro h
    have := (readT_num t (by omega)).1
    rw [h] at this
    rw [this]
    exact readNumber_num n h0 h1
theorem readNumber (t : List UInt8) (h : t.length ≤ 2000000) : impl_readNumber.f (mk t) = some (impl_readNumber.v (mk t)) := by
  unfold impl_readNumber.f
  rw [if_pos (by rw [mk_size]; exact h)]
end Go.Proofs.YtllihaahppelhaaDoor.Pa
namespace Go.Proofs.YtllihaahppelhaaDoor.Pa
open Go.RowKit Go.Proofs.YtllihaahppelhaaDoor.P Go.Proofs.YtllihaahppelhaaDoorW.PrintWords Go.Proofs.YtllihaahppelhaaDoor.E Go.Proofs.YtllihaahppelhaaDoor.Tx
def nOf (q : List UInt8) : Int := (impl_readNumber.v (mk q)).1
def okOf (q : List UInt8) : Bool := (impl_readNumber.v (mk q)).2
theorem rdOf_mk (qs : List (List UInt8)) (i : Nat) (h : i < qs.length) : rdOf ByteArray.empty (qs.map mk) (i : Int) = mk qs[i] := by
  simp [rdOf, List.getD_eq_getElem?_getD, List.getElem?_eq_getElem h]
theorem parts_sum (c : UInt8) (l : List UInt8) : l.length + 1 = ((parts c l).map fun x => x.length + 1).sum := by
  induction l with
  | nil => rfl
  | cons b l ih =>
    by_cases h : b = c
    · subst h
      rw [parts_cons_eq, List.map_cons, List.sum_cons, ← ih]
      simp; omega
    · obtain ⟨x, r, e1, e2⟩ := parts_cons_ne c b l h
      rw [e2, List.map_cons, List.sum_cons]
      rw [e1, List.map_cons, List.sum_cons] at ih
      simp only [List.length_cons]
      omega
theorem sum_ge (L : List (List UInt8)) (x : List UInt8) (h : x ∈ L) : x.length + 1 ≤ (L.map fun x => x.length + 1).sum := by
  induction L with
  | nil => cases h
  | cons y L ih =>
    rw [List.map_cons, List.sum_cons]
    rcases List.mem_cons.1 h with rfl | h
    · omega
    · have := ih h; omega
theorem sum_len (L : List (List UInt8)) : L.length ≤ (L.map fun x => x.length + 1).sum := by
  induction L with
  | nil => simp
  | cons y L ih => rw [List.map_cons, List.sum_cons, List.length_cons]; omega
theorem parts_le (c : UInt8) (l : List UInt8) : (∀ x ∈ parts c l, x.length ≤ l.length) ∧ (parts c l).length ≤ l.length + 1 := by
  have h := parts_sum c l
  refine ⟨fun x hx => ?_, ?_⟩
  · have := sum_ge _ x hx; omega
  · have := sum_len (parts c l); omega
theorem readNumbers_l (qs : List (List UInt8)) (hq : ∀ q ∈ qs, q.length ≤ 2000000) (hl : qs.length ≤ 2000001) (n : Nat) : ∀ i : Nat, i ≤ qs.length → qs.length - i ≤ n →
    Ev (fun k => impl_readNumbers.l0 k ((qs.take i).map nOf) (qs.map mk) ((qs.map mk).length : Int) (i : Int)) (if (qs.drop i).all okOf = true then (qs.map nOf, true) else (([] : List Int), false)) := by
  have hm : (qs.map mk).length = qs.length := List.length_map ..
  have stop : Ev (fun k => impl_readNumbers.l0 k ((qs.take qs.length).map nOf) (qs.map mk) ((qs.map mk).length : Int) (qs.length : Int)) (if (qs.drop qs.length).all okOf = true then (qs.map nOf, true) else (([] : List Int), false)) := by
    refine Ev.step (f := fun k => _) (fun k => by rw [impl_readNumbers.l0]) (ifn (by omega) ?_)
    rw [List.take_length, List.drop_length]
    exact now
  induction n with
  | zero =>
    intro i h1 h2
    obtain rfl : i = qs.length := by omega
    exact stop
  | succ n ih =>
    intro i h1 h2
    by_cases hi : i < qs.length
    · have hnext := ih (i + 1) (by omega) (by omega)
      have hw : wrap64 ((i : Int) + 1) = ((i + 1 : Nat) : Int) := by rw [w64 _ (by omega)]; omega
      refine Ev.step (f := fun k => _) (fun k => by rw [impl_readNumbers.l0]) (ifp (by omega) (ifp (by omega) (ifp (by omega) ?_)))
      rw [rdOf_mk qs i hi, List.drop_eq_getElem_cons hi, List.all_cons]
      refine call (readNumber qs[i] (hq _ (List.getElem_mem hi))) ?_
      cases ho : okOf qs[i] with
      | false =>
        refine ifn (by show ¬ okOf qs[i] = true; rw [ho]; simp) (evEq now ?_)
        rfl
      | true =>
        refine ifp (by show okOf qs[i] = true; exact ho) (ifp (by rw [List.length_map, List.length_take]; omega) ?_)
        rw [hw, Bool.true_and]
        rw [List.take_add_one, List.getElem?_eq_getElem hi, List.map_append] at hnext
        exact hnext
    · obtain rfl : i = qs.length := by omega
      exact stop
theorem readNumbers (p : List UInt8) (c : UInt8) (h : p.length ≤ 2000000) : Ev (fun k => impl_readNumbers.f k (mk p) ⟨#[c]⟩) (if (parts c p).all okOf = true then ((parts c p).map nOf, true) else (([] : List Int), false)) := by
  obtain ⟨h1, h2⟩ := parts_le c p
  unfold impl_readNumbers.f
  refine call (split p c h) ?_
  have := readNumbers_l (parts c p) (fun q hq => Nat.le_trans (h1 q hq) h) (by omega) _ 0 (Nat.zero_le _) (Nat.le_refl _)
  rw [List.drop_zero] at this
  exact this
theorem okOf_read (q : List UInt8) (n : Int) (h0 : 0 ≤ n) (h1 : n < 1000000) : (okOf q = true ∧ nOf q = n) ↔ readT q = n := by
  rw [← readNumber_read q n h0 h1]
  unfold okOf nOf
  constructor
  · rintro ⟨a, b⟩; exact Prod.ext b a
  · intro e; rw [e]; exact ⟨rfl, rfl⟩
end Go.Proofs.YtllihaahppelhaaDoor.Pa
namespace Go.Proofs.YtllihaahppelhaaDoor.Tx
open Go.RowKit Go.Proofs.YtllihaahppelhaaDoor.P Go.Proofs.YtllihaahppelhaaDoorW.PrintWords Go.Proofs.YtllihaahppelhaaDoor.E
theorem itoa (n : Int) (h0 : 0 ≤ n) (h1 : n ≤ 1000000) : strconv_Itoa.f n = some (mk (num n)) := by
  unfold strconv_Itoa.f
  rw [if_pos ⟨h0, h1⟩]
  unfold Lib.itoa
  rw [if_neg (by omega)]
  rfl
theorem dig (n : Int) (h0 : 0 ≤ n) (h1 : n < 10) : strOfNums [(wrap64 (48 + n)) % 256] = mk [UInt8.ofNat (48 + n.toNat)] := by
  rw [w64 _ (by omega)]
  unfold strOfNums mk
  have e : (48 + n) % 256 = 48 + n := by omega
  rw [e]
  simp only [List.map_cons, List.map_nil]
  rw [show (48 + n).toNat = 48 + n.toNat by omega]
theorem l1Num (m : Nat) : ∀ n : Int, 0 ≤ n → n ≤ 1000000 → n.toNat ≤ m → Ev (fun k => spec_l1Num.f k n) (mk (num n)) := by
  induction m with
  | zero =>
    intro n h0 _ hm
    have hn : n.toNat < 10 := by omega
    refine Ev.step (f := fun k => _) (fun k => by rw [spec_l1Num.f]) (ifp (by omega) ?_)
    rw [dig n h0 (by omega)]
    unfold num
    rw [Lib.decDigits, dif_pos hn]
    exact now
  | succ m ih =>
    intro n h0 h1 hm
    by_cases h : n < 10
    · have hn : n.toNat < 10 := by omega
      refine Ev.step (f := fun k => _) (fun k => by rw [spec_l1Num.f]) (ifp h ?_)
      rw [dig n h0 h]
      unfold num
      rw [Lib.decDigits, dif_pos hn]
      exact now
    · have hd : n.tdiv 10 = n / 10 := Int.tdiv_eq_ediv_of_nonneg h0
      have hmd : n.tmod 10 = n % 10 := Int.tmod_eq_emod_of_nonneg h0
      refine Ev.step (f := fun k => _) (fun k => by rw [spec_l1Num.f]) (ifn h ?_)
      rw [hd, hmd, w64 (n / 10) (by omega)]
      refine Ev.bind (ih (n / 10) (by omega) (by omega) (by omega)) ?_
      have hl := num_len (n / 10) (by omega)
      simp only [Option.bind_some]
      rw [dig (n % 10) (by omega) (by omega)]
      refine ifp (by rw [mk_size, mk_size]; simp; omega) ?_
      rw [mk_app]
      have e : num n = num (n / 10) ++ [UInt8.ofNat (48 + (n % 10).toNat)] := by
        unfold num
        rw [Lib.decDigits, dif_neg (by omega), show (n / 10).toNat = n.toNat / 10 by omega, show (n % 10).toNat = n.toNat % 10 by omega]
      rw [e]
      exact now
theorem join_snoc (xs : List (List UInt8)) (y sep : List UInt8) (h : xs ≠ []) : Lib.join (xs ++ [y]) sep = Lib.join xs sep ++ sep ++ y := by
  obtain ⟨x, r, rfl⟩ := List.exists_cons_of_ne_nil h
  rw [List.cons_append, Lib.join_cons, Lib.join_cons]
  simp [Lib.joinTail, List.append_assoc]
theorem join_len (m : Nat) (sep : List UInt8) (hs : sep.length = 1) : ∀ xs : List (List UInt8), (∀ x ∈ xs, x.length ≤ m) → (Lib.join xs sep).length ≤ xs.length * (m + 1) := by
  intro xs
  cases xs with
  | nil => intro _; simp [Lib.join_nil]
  | cons x r =>
    intro h
    rw [Lib.join_cons, List.length_append]
    have hx := h x (List.mem_cons_self ..)
    have hr : ∀ r : List (List UInt8), (∀ x ∈ r, x.length ≤ m) → (Lib.joinTail sep r).length ≤ r.length * (m + 1) := by
      intro r
      induction r with
      | nil => intro _; simp [Lib.joinTail]
      | cons y r ih =>
        intro h
        have hy := h y (List.mem_cons_self ..)
        have := ih fun z hz => h z (List.mem_cons_of_mem _ hz)
        simp only [Lib.joinTail, List.map_cons, List.flatten_cons, List.length_append, List.length_cons] at this ⊢
        rw [Nat.add_mul, Nat.one_mul]
        omega
    have := hr r fun z hz => h z (List.mem_cons_of_mem _ hz)
    rw [List.length_cons, Nat.add_mul, Nat.one_mul]
    omega
theorem join (xs : List (List UInt8)) (c : UInt8) (h1 : xs.length ≤ 1000) (m : Nat) (hm : m ≤ 900) (h2 : ∀ x ∈ xs, x.length ≤ m) : strings_Join.f (xs.map mk) ⟨#[c]⟩ = some (mk (Lib.join xs [c])) := by
  unfold strings_Join.f
  have e : (xs.map mk).map (fun x : ByteArray => x.data.toList) = xs := by
    rw [List.map_map]
    have : ((fun x : ByteArray => x.data.toList) ∘ mk) = id := by funext l; exact mk_list l
    rw [this, List.map_id]
  rw [e]
  have hl := join_len m [c] rfl xs h2
  have hq : xs.length * (m + 1) ≤ 1000 * 901 := Nat.mul_le_mul h1 (by omega)
  rw [if_pos ⟨by rw [List.length_map]; exact h1, by show (Lib.join xs [c]).length ≤ 1000000; omega⟩]
  rfl
end Go.Proofs.YtllihaahppelhaaDoor.Tx
namespace Go.Proofs.YtllihaahppelhaaDoor.Pr
open Go.RowKit Go.Proofs.YtllihaahppelhaaDoor.P Go.Proofs.YtllihaahppelhaaDoorW.PrintWords Go.Proofs.YtllihaahppelhaaDoor.E
abbrev Kn := S37
abbrev rdK (l : List Kn) (i : Int) : Kn := rd_T37 l i
theorem rdK_get (l : List Kn) (i : Nat) (h : i < l.length) : rd_T37 l (i : Int) = l[i] := by simp [rd_T37, List.getD_eq_getElem?_getD, List.getElem?_eq_getElem h]
theorem eqKin (a b c : Int) : laws_eqKin.f a b c a b c = some true := by simp [laws_eqKin.f]
theorem eqKinS_l (l : List Kn) (hl : l.length ≤ 1099511627776) (n : Nat) : ∀ i : Nat, i ≤ l.length → l.length - i ≤ n → Ev (fun k => laws_eqKinS.l0 k l l (i : Int)) true := by
  induction n with
  | zero =>
    intro i h1 h2
    exact Ev.step (f := fun k => _) (fun k => by rw [laws_eqKinS.l0]) (ifn (by omega) now)
  | succ n ih =>
    intro i h1 h2
    by_cases hi : i < l.length
    · refine Ev.step (f := fun k => _) (fun k => by rw [laws_eqKinS.l0]) (ifp (by omega) (ifp (by omega) (ifp (by omega) (call (eqKin _ _ _) (ifp rfl ?_)))))
      rw [w64 _ (by omega)]
      exact ih (i + 1) (by omega) (by omega)
    · exact Ev.step (f := fun k => _) (fun k => by rw [laws_eqKinS.l0]) (ifn (by omega) now)
theorem eqKinS (l : List Kn) (hl : l.length ≤ 1099511627776) : Ev (fun k => laws_eqKinS.f k l l) true := by
  unfold laws_eqKinS.f
  exact ifp rfl (eqKinS_l l hl _ 0 (by omega) (Nat.le_refl _))
end Go.Proofs.YtllihaahppelhaaDoor.Pr
namespace Go.Proofs.YtllihaahppelhaaDoor.Pr
open Go.RowKit Go.Proofs.YtllihaahppelhaaDoor.P Go.Proofs.YtllihaahppelhaaDoorW.PrintWords Go.Proofs.YtllihaahppelhaaDoor.E
theorem l1In (a lo hi : Int) : spec_l1In.f a lo hi = some (decide (lo ≤ a ∧ a ≤ hi)) := by
  unfold spec_l1In.f
  by_cases h : a ≥ lo
  · rw [if_pos h]; congr 1; simp; omega
  · rw [if_neg h]; congr 1; simp; omega
theorem between (a lo hi : Int) : impl_between.f a lo hi = some (decide (lo ≤ a ∧ a ≤ hi)) := l1In a lo hi
theorem rdI (l : List Int) (i : Nat) (h : i < l.length) : rd l (i : Int) = l[i] := by simp [rd, List.getD_eq_getElem?_getD, List.getElem?_eq_getElem h]
/-- The known parents. -/
def ps (k : Kn) : List Int := [k.f1, k.f2].filter fun x => !decide (x < 0)
theorem parents_f (k : Kn) : impl_Kin_parents.f k.f0 k.f1 k.f2 = some (ps k) := rfl
theorem ps_len (k : Kn) : (ps k).length ≤ 2 := by unfold ps; exact Nat.le_trans (List.length_filter_le _ _) (by simp)
theorem mem_ps (k : Kn) (p : Int) : p ∈ ps k ↔ (p = k.f1 ∨ p = k.f2) ∧ 0 ≤ p := by
  unfold ps
  simp [List.mem_filter]
/-- May k be told behind the first i of l? -/
def Fits (l : List Kn) (i : Nat) (k : Kn) : Prop := (0 ≤ k.f0 ∧ k.f0 ≤ 3000) ∧ ((k.f1 = -1 ∧ k.f2 = -1) ∨ ((0 ≤ k.f1 ∧ k.f1 < i ∧ 14 ≤ k.f0 - (rdK l k.f1).f0) ∧ (k.f2 = -1 ∨ (k.f1 < k.f2 ∧ k.f2 < i ∧ 14 ≤ k.f0 - (rdK l k.f2).f0))))
instance (l : List Kn) (i : Nat) (k : Kn) : Decidable (Fits l i k) := by unfold Fits; exact inferInstance
def Fam (l : List Kn) : Prop := (1 ≤ l.length ∧ l.length ≤ 14) ∧ ∀ i, (h : i < l.length) → Fits l i l[i]
noncomputable def good (l : List Kn) : Bool := dec (Fam l)
theorem good_iff (l : List Kn) : good l = true ↔ Fam l := dec_iff _
theorem good_of (l : List Kn) (h : Fam l) : good l = true := (good_iff l).2 h
theorem good_not (l : List Kn) (h : ¬ Fam l) : good l = false := by
  cases e : good l with
  | true => exact absurd ((good_iff l).1 e) h
  | false => rfl
theorem rdK_int (l : List Kn) (p : Int) (h0 : 0 ≤ p) (h1 : p < (l.length : Int)) : ∃ h : p.toNat < l.length, rd_T37 l p = l[p.toNat] := by
  have h : p.toNat < l.length := by omega
  refine ⟨h, ?_⟩
  have e := rdK_get l p.toNat h
  rw [Int.toNat_of_nonneg h0] at e
  exact e
theorem rdK_take (l : List Kn) (i : Nat) (hi : i ≤ l.length) (p : Int) (h0 : 0 ≤ p) (h1 : p < (i : Int)) : rdK (l.take i) p = rdK l p := by
  obtain ⟨h2, e2⟩ := rdK_int (l.take i) p h0 (by rw [List.length_take]; omega)
  obtain ⟨h3, e3⟩ := rdK_int l p h0 (by omega)
  show rd_T37 _ _ = rd_T37 _ _
  rw [e2, e3, List.getElem_take]
theorem Fits_take (l : List Kn) (i : Nat) (hi : i ≤ l.length) (k : Kn) : Fits (l.take i) i k ↔ Fits l i k := by
  unfold Fits
  refine and_congr_right fun _ => or_congr_right ?_
  by_cases h1 : 0 ≤ k.f1 ∧ k.f1 < (i : Int)
  · rw [rdK_take l i hi _ h1.1 h1.2]
    refine and_congr_right fun _ => or_congr_right ?_
    by_cases h2 : 0 ≤ k.f2 ∧ k.f2 < (i : Int)
    · rw [rdK_take l i hi _ h2.1 h2.2]
    · constructor <;> intro h <;> exact absurd (show 0 ≤ k.f2 ∧ k.f2 < (i : Int) by omega) h2
  · constructor <;> intro h <;> exact absurd ⟨h.1.1, h.1.2.1⟩ h1
def Years (l : List Kn) : Prop := ∀ i, (h : i < l.length) → 0 ≤ l[i].f0 ∧ l[i].f0 ≤ 3000
theorem Years_rd (l : List Kn) (hy : Years l) (p : Int) (h0 : 0 ≤ p) (h1 : p < (l.length : Int)) : 0 ≤ (rdK l p).f0 ∧ (rdK l p).f0 ≤ 3000 := by
  obtain ⟨h, e⟩ := rdK_int l p h0 h1
  show 0 ≤ (rd_T37 l p).f0 ∧ (rd_T37 l p).f0 ≤ 3000
  rw [e]; exact hy _ h
theorem faOlder (b : List Kn) (p born : Int) (hy : Years b) (hb : 0 ≤ born ∧ born ≤ 3000) (hl : b.length ≤ 1073741824) : spec_faOlder.f b p born = some (decide (0 ≤ p ∧ p < (b.length : Int) ∧ 14 ≤ born - (rdK b p).f0)) := by
  unfold spec_faOlder.f
  rw [w64 _ (by omega), l1In]
  simp only [Option.bind_some]
  by_cases h : 0 ≤ p ∧ p ≤ (b.length : Int) - 1
  · have hr : 0 ≤ (rd_T37 b p).f0 ∧ (rd_T37 b p).f0 ≤ 3000 := Years_rd b hy p h.1 (by omega)
    rw [if_pos (by simpa using h), if_pos h.1, if_pos (by omega), w64 _ (by omega)]
    congr 1
    rw [decide_eq_decide]
    constructor
    · intro h1; exact ⟨h.1, by omega, h1⟩
    · intro h1; exact h1.2.2
  · rw [if_neg (by simpa using h)]
    congr 1
    symm
    rw [decide_eq_false_iff_not]
    intro h1
    exact h ⟨h1.1, by omega⟩
theorem faFits (b : List Kn) (k : Kn) (hy : Years b) (hl : b.length ≤ 1073741824) : spec_faFits.f b k.f0 k.f1 k.f2 = some (decide (Fits b b.length k)) := by
  unfold spec_faFits.f
  rw [l1In]
  simp only [Option.bind_some]
  by_cases h0 : 0 ≤ k.f0 ∧ k.f0 ≤ 3000
  · rw [if_pos (by simpa using h0)]
    by_cases h1 : k.f1 = -1
    · rw [if_pos h1]
      congr 1
      rw [Bool.eq_iff_iff, decide_eq_true_iff, beq_iff_eq]
      unfold Fits
      constructor
      · intro h; exact ⟨h0, .inl ⟨h1, h⟩⟩
      · rintro ⟨_, h | h⟩
        · exact h.2
        · omega
    · rw [if_neg h1, faOlder b k.f1 k.f0 hy h0 hl]
      simp only [Option.bind_some]
      by_cases h2 : 0 ≤ k.f1 ∧ k.f1 < (b.length : Int) ∧ 14 ≤ k.f0 - (rdK b k.f1).f0
      · rw [if_pos (by simpa using h2)]
        by_cases h3 : k.f2 = -1
        · rw [if_pos h3]
          congr 1
          symm
          rw [decide_eq_true_iff]
          exact ⟨h0, .inr ⟨h2, .inl h3⟩⟩
        · rw [if_neg h3]
          by_cases h4 : k.f1 < k.f2
          · rw [if_pos h4, faOlder b k.f2 k.f0 hy h0 hl]
            simp only [Option.bind_some]
            congr 1
            rw [decide_eq_decide]
            unfold Fits
            constructor
            · intro h5; exact ⟨h0, .inr ⟨h2, .inr ⟨h4, h5.2.1, h5.2.2⟩⟩⟩
            · rintro ⟨_, h | h⟩
              · omega
              · rcases h.2 with h | h
                · exact absurd h h3
                · exact ⟨by omega, h.2.1, h.2.2⟩
          · rw [if_neg h4]
            congr 1
            symm
            rw [decide_eq_false_iff_not]
            rintro ⟨_, h | h⟩
            · omega
            · rcases h.2 with h | h
              · exact h3 h
              · exact h4 h.1
      · rw [if_neg (by simpa using h2)]
        congr 1
        symm
        rw [decide_eq_false_iff_not]
        rintro ⟨_, h | h⟩
        · omega
        · exact h2 h.1
  · rw [if_neg (by simpa using h0)]
    congr 1
    symm
    rw [decide_eq_false_iff_not]
    exact fun h => h0 h.1
def FamFrom (l : List Kn) (i : Nat) : Prop := ∀ j, i ≤ j → (h : j < l.length) → Fits l j l[j]
theorem FamFrom_step (l : List Kn) (i : Nat) (h : i < l.length) (hf : Fits l i l[i]) : FamFrom l (i + 1) ↔ FamFrom l i := by
  constructor
  · intro h1 j hj hl
    by_cases e : j = i
    · subst e; exact hf
    · exact h1 j (by omega) hl
  · intro h1 j hj hl
    exact h1 j (by omega) hl
def YearsTo (l : List Kn) (i : Nat) : Prop := ∀ j, j < i → (h : j < l.length) → 0 ≤ l[j].f0 ∧ l[j].f0 ≤ 3000
theorem YearsTo_take (l : List Kn) (i : Nat) (h : YearsTo l i) : Years (l.take i) := by
  intro j hj
  rw [List.length_take] at hj
  rw [List.getElem_take]
  exact h j (by omega) (by omega)
theorem YearsTo_step (l : List Kn) (i : Nat) (h : i < l.length) (hf : Fits l i l[i]) (hy : YearsTo l i) : YearsTo l (i + 1) := by
  intro j hj hl
  by_cases e : j = i
  · subst e; exact hf.1
  · exact hy j (by omega) hl
theorem faGood_l (l : List Kn) (hl : l.length ≤ 1073741824) (n : Nat) : ∀ i : Nat, i ≤ l.length → l.length - i ≤ n → YearsTo l i → Ev (fun k => spec_faGood.l0 k l l (l.length : Int) (i : Int)) (dec (FamFrom l i)) := by
  have stop : Ev (fun k => spec_faGood.l0 k l l (l.length : Int) (l.length : Int)) (dec (FamFrom l l.length)) := by
    refine Ev.step (f := fun k => _) (fun k => by rw [spec_faGood.l0]) (ifn (by omega) (evEq now ?_))
    symm
    refine dec_pos ?_
    intro j h1 h2
    omega
  induction n with
  | zero =>
    intro i h1 h2 _
    obtain rfl : i = l.length := by omega
    exact stop
  | succ n ih =>
    intro i h1 h2 hy
    by_cases hi : i < l.length
    · refine Ev.step (f := fun k => _) (fun k => by rw [spec_faGood.l0]) (ifp (by omega) (ifp (by omega) (ifp (by omega) (ifp (by omega) ?_))))
      rw [rdK_get l i hi, Int.toNat_natCast, w64 _ (by omega)]
      have hf := faFits (l.take i) l[i] (YearsTo_take l i hy) (by rw [List.length_take]; omega)
      have e : (l.take i).length = i := by rw [List.length_take]; omega
      rw [e] at hf
      refine call hf ?_
      by_cases hq : Fits l i l[i]
      · refine ifp (by simpa using (Fits_take l i h1 l[i]).2 hq) (evEq (ih (i + 1) (by omega) (by omega) (YearsTo_step l i hi hq hy)) ?_)
        exact dec_congr (FamFrom_step l i hi hq)
      · refine ifn (by simpa using fun h => hq ((Fits_take l i h1 l[i]).1 h)) (evEq now ?_)
        symm
        exact dec_neg fun h => hq (h i (Nat.le_refl _) hi)
    · obtain rfl : i = l.length := by omega
      exact stop
theorem faGood (l : List Kn) (hl : l.length ≤ 1073741824) : Ev (fun k => spec_faGood.f k l) (good l) := by
  unfold spec_faGood.f
  refine call (l1In _ _ _) ?_
  by_cases h : 1 ≤ l.length ∧ l.length ≤ 14
  · refine ifp (by simp; omega) (evEq (faGood_l l hl _ 0 (by omega) (Nat.le_refl _) (fun j hj => absurd hj (Nat.not_lt_zero _))) ?_)
    refine dec_congr ?_
    constructor
    · intro h1; exact ⟨h, fun i hi => h1 i (by omega) hi⟩
    · intro h1 j _ hj; exact h1.2 j hj
  · refine ifn (by simp; omega) (evEq now ?_)
    rw [good_not l fun h1 => h h1.1]
end Go.Proofs.YtllihaahppelhaaDoor.Pr
namespace Go.Proofs.YtllihaahppelhaaDoor.Pr
open Go.RowKit Go.Proofs.YtllihaahppelhaaDoor.P Go.Proofs.YtllihaahppelhaaDoorW.PrintWords Go.Proofs.YtllihaahppelhaaDoor.E
/-- The program's tests of one of the kin. -/
def Own (i : Nat) (k : Kn) : Prop := (0 ≤ k.f0 ∧ k.f0 ≤ 3000) ∧ (-1 ≤ k.f1 ∧ k.f1 ≤ (i : Int) - 1) ∧ (-1 ≤ k.f2 ∧ k.f2 ≤ (i : Int) - 1) ∧ ¬ (0 ≤ k.f2 ∧ k.f2 ≤ k.f1) ∧ ¬ (k.f1 < 0 ∧ 0 ≤ k.f2)
theorem Fits_own (l : List Kn) (i : Nat) (k : Kn) : Fits l i k ↔ Own i k ∧ ∀ p ∈ ps k, (rdK l p).f0 + 14 ≤ k.f0 := by
  unfold Fits Own
  simp only [mem_ps]
  constructor
  · rintro ⟨h0, h | ⟨h1, h2⟩⟩
    · refine ⟨⟨h0, by omega, by omega, by omega, by omega⟩, ?_⟩
      rintro p ⟨h3 | h3, h4⟩ <;> omega
    · rcases h2 with h2 | h2
      · refine ⟨⟨h0, by omega, by omega, by omega, by omega⟩, ?_⟩
        rintro p ⟨h3 | h3, h4⟩
        · subst h3; omega
        · omega
      · refine ⟨⟨h0, by omega, by omega, by omega, by omega⟩, ?_⟩
        rintro p ⟨h3 | h3, h4⟩
        · subst h3; omega
        · subst h3; omega
  · rintro ⟨⟨h0, h1, h2, h3, h4⟩, h5⟩
    refine ⟨h0, ?_⟩
    by_cases e : k.f1 = -1
    · exact .inl ⟨e, by omega⟩
    · refine .inr ⟨⟨by omega, by omega, ?_⟩, ?_⟩
      · have := h5 k.f1 ⟨.inl rfl, by omega⟩
        omega
      · by_cases e2 : k.f2 = -1
        · exact .inl e2
        · refine .inr ⟨by omega, by omega, ?_⟩
          have := h5 k.f2 ⟨.inr rfl, by omega⟩
          omega
theorem isFamily_l1 (l : List Kn) (i : Nat) (k : Kn) (r : Bool) (L : List Int) (hi : i < l.length) (hL : L.length ≤ 2) (hy : YearsTo l i) (hv : ∀ p ∈ L, 0 ≤ p ∧ p < (i : Int)) (hr : Ev (fun n => impl_IsFamily.l0 n l l (l.length : Int) (wrap64 ((i : Int) + 1))) r) (n : Nat) :
    ∀ j : Nat, j ≤ L.length → L.length - j ≤ n → Ev (fun n => impl_IsFamily.l1 n l l (l.length : Int) (i : Int) L (L.length : Int) (j : Int) k.f0 k.f1 k.f2) (if (∀ p ∈ L.drop j, (rdK l p).f0 + 14 ≤ k.f0) then r else false) := by
  have stop : Ev (fun n => impl_IsFamily.l1 n l l (l.length : Int) (i : Int) L (L.length : Int) (L.length : Int) k.f0 k.f1 k.f2) (if (∀ p ∈ L.drop L.length, (rdK l p).f0 + 14 ≤ k.f0) then r else false) := by
    rw [if_pos (by simp)]
    exact Ev.step (f := fun k => _) (fun k => by rw [impl_IsFamily.l1]) (ifn (by omega) hr)
  induction n with
  | zero =>
    intro j h1 h2
    obtain rfl : j = L.length := by omega
    exact stop
  | succ n ih =>
    intro j h1 h2
    by_cases hj : j < L.length
    · have hp := hv L[j] (List.getElem_mem hj)
      have hb : 0 ≤ (rd_T37 l L[j]).f0 ∧ (rd_T37 l L[j]).f0 ≤ 3000 := by
        obtain ⟨h3, e3⟩ := rdK_int l L[j] hp.1 (by omega)
        rw [e3]; exact hy _ (by omega) h3
      refine Ev.step (f := fun k => _) (fun k => by rw [impl_IsFamily.l1]) (ifp (by omega) (ifp (by omega) (ifp (by omega) ?_)))
      rw [rdI L j hj, w64 (j + 1) (by omega), w64 _ (by omega)]
      refine ifp hp.1 (ifp (by omega) ?_)
      have e : (∀ p ∈ L.drop j, (rdK l p).f0 + 14 ≤ k.f0) ↔ (rdK l L[j]).f0 + 14 ≤ k.f0 ∧ ∀ p ∈ L.drop (j + 1), (rdK l p).f0 + 14 ≤ k.f0 := by
        rw [List.drop_eq_getElem_cons hj]
        simp only [List.mem_cons, forall_eq_or_imp]
      by_cases h3 : (rdK l L[j]).f0 + 14 ≤ k.f0
      · have h3' : (rd_T37 l L[j]).f0 + 14 ≤ k.f0 := h3
        refine ifn (by omega) (evEq (ih (j + 1) (by omega) (by omega)) ?_)
        simp only [e, h3, true_and]
      · have h3' : ¬ (rd_T37 l L[j]).f0 + 14 ≤ k.f0 := h3
        refine ifp (by omega) (evEq now ?_)
        rw [if_neg (fun h => h3 (e.1 h).1)]
    · obtain rfl : j = L.length := by omega
      exact stop
theorem isFamily_j1 (l : List Kn) (i : Nat) (k : Kn) (x r : Bool) (hi : i < l.length) (hy : YearsTo l i) (h0 : 0 ≤ k.f0 ∧ k.f0 ≤ 3000) (h1 : -1 ≤ k.f1 ∧ k.f1 ≤ (i : Int) - 1) (h2 : -1 ≤ k.f2 ∧ k.f2 ≤ (i : Int) - 1) (hx : x = decide ((0 ≤ k.f2 ∧ k.f2 ≤ k.f1) ∨ (k.f1 < 0 ∧ 0 ≤ k.f2)))
    (hr : Ev (fun n => impl_IsFamily.l0 n l l (l.length : Int) (wrap64 ((i : Int) + 1))) r) : Ev (fun n => impl_IsFamily.j1 n l l (l.length : Int) (i : Int) x k.f0 k.f1 k.f2) (if Fits l i k then r else false) := by
  refine Ev.step (f := fun k => _) (fun k => by rw [impl_IsFamily.j1]) ?_
  subst hx
  by_cases h : (0 ≤ k.f2 ∧ k.f2 ≤ k.f1) ∨ (k.f1 < 0 ∧ 0 ≤ k.f2)
  · refine ifp (by simpa using h) (evEq now ?_)
    rw [if_neg]
    intro h3
    have := ((Fits_own l i k).1 h3).1
    unfold Own at this
    rcases h with h | h
    · exact this.2.2.2.1 h
    · exact this.2.2.2.2 h
  · refine ifn (by simpa using h) (call (parents_f k) ?_)
    have h4 := isFamily_l1 l i k r (ps k) hi (ps_len k) hy (fun p hp => by rw [mem_ps] at hp; omega) hr _ 0 (by omega) (Nat.le_refl _)
    refine evEq h4 ?_
    have e : (∀ p ∈ (ps k).drop 0, (rdK l p).f0 + 14 ≤ k.f0) ↔ Fits l i k := by
      rw [Fits_own, List.drop_zero]
      constructor
      · intro h5; exact ⟨⟨h0, h1, h2, fun h6 => h (.inl h6), fun h6 => h (.inr h6)⟩, h5⟩
      · exact fun h5 => h5.2
    simp only [e]
theorem isFamily_l (l : List Kn) (hl : l.length ≤ 1073741824) (n : Nat) : ∀ i : Nat, i ≤ l.length → l.length - i ≤ n → YearsTo l i → Ev (fun k => impl_IsFamily.l0 k l l (l.length : Int) (i : Int)) (dec (FamFrom l i)) := by
  have stop : Ev (fun k => impl_IsFamily.l0 k l l (l.length : Int) (l.length : Int)) (dec (FamFrom l l.length)) := by
    refine Ev.step (f := fun k => _) (fun k => by rw [impl_IsFamily.l0]) (ifn (by omega) (evEq now ?_))
    symm
    refine dec_pos ?_
    intro j h1 h2
    omega
  induction n with
  | zero =>
    intro i h1 h2 _
    obtain rfl : i = l.length := by omega
    exact stop
  | succ n ih =>
    intro i h1 h2 hy
    by_cases hi : i < l.length
    · have key : Ev (fun k => impl_IsFamily.l0 k l l (l.length : Int) (i : Int)) (if Fits l i l[i] then dec (FamFrom l (i + 1)) else false) ∨ Ev (fun k => impl_IsFamily.l0 k l l (l.length : Int) (i : Int)) (if Fits l i l[i] then dec (FamFrom l i) else false) := by
        generalize hk : l[i] = k
        have go : ∀ x : Bool, x = decide ((0 ≤ k.f2 ∧ k.f2 ≤ k.f1) ∨ (k.f1 < 0 ∧ 0 ≤ k.f2)) → (0 ≤ k.f0 ∧ k.f0 ≤ 3000) → (-1 ≤ k.f1 ∧ k.f1 ≤ (i : Int) - 1) → (-1 ≤ k.f2 ∧ k.f2 ≤ (i : Int) - 1) →
            Ev (fun n => impl_IsFamily.j1 n l l (l.length : Int) (i : Int) x k.f0 k.f1 k.f2) (if Fits l i k then dec (FamFrom l i) else false) := by
          intro x hx a0 a1 a2
          by_cases hf : Fits l i k
          · have h3 := ih (i + 1) (by omega) (by omega) (YearsTo_step l i hi (by rw [hk]; exact hf) hy)
            rw [show ((i + 1 : Nat) : Int) = wrap64 ((i : Int) + 1) by rw [w64 _ (by omega)]; rfl] at h3
            refine evEq (isFamily_j1 l i k x _ hi hy a0 a1 a2 hx h3) ?_
            rw [if_pos hf, if_pos hf]
            exact dec_congr (FamFrom_step l i hi (by rw [hk]; exact hf))
          · refine Ev.step (f := fun k => _) (fun k => by rw [impl_IsFamily.j1]) ?_
            subst hx
            rw [if_neg hf]
            by_cases h : (0 ≤ k.f2 ∧ k.f2 ≤ k.f1) ∨ (k.f1 < 0 ∧ 0 ≤ k.f2)
            · exact ifp (by simpa using h) now
            · refine ifn (by simpa using h) (call (parents_f k) ?_)
              have hex : ∃ j : Nat, j ≤ (ps k).length ∧ True := ⟨0, by omega, trivial⟩
              clear hex
              have nf : ¬ ∀ p ∈ ps k, (rdK l p).f0 + 14 ≤ k.f0 := fun h5 => hf ((Fits_own l i k).2 ⟨⟨a0, a1, a2, fun h6 => h (.inl h6), fun h6 => h (.inr h6)⟩, h5⟩)
              have stuck : ∀ (n : Nat) (j : Nat), j ≤ (ps k).length → (ps k).length - j ≤ n → (¬ ∀ p ∈ (ps k).drop j, (rdK l p).f0 + 14 ≤ k.f0) → Ev (fun n => impl_IsFamily.l1 n l l (l.length : Int) (i : Int) (ps k) ((ps k).length : Int) (j : Int) k.f0 k.f1 k.f2) false := by
                intro n
                induction n with
                | zero =>
                  intro j h1 h2 h3
                  exact absurd (by rw [List.drop_eq_nil_of_le (by omega)]; simp) h3
                | succ n ih2 =>
                  intro j h1 h2 h3
                  by_cases hj : j < (ps k).length
                  · have hL := ps_len k
                    have hp : 0 ≤ (ps k)[j] ∧ (ps k)[j] < (i : Int) := by
                      have := (mem_ps k (ps k)[j]).1 (List.getElem_mem hj)
                      omega
                    have hb : 0 ≤ (rd_T37 l (ps k)[j]).f0 ∧ (rd_T37 l (ps k)[j]).f0 ≤ 3000 := by
                      obtain ⟨h3, e3⟩ := rdK_int l (ps k)[j] hp.1 (by omega)
                      rw [e3]; exact hy _ (by omega) h3
                    refine Ev.step (f := fun k => _) (fun k => by rw [impl_IsFamily.l1]) (ifp (by omega) (ifp (by omega) (ifp (by omega) ?_)))
                    rw [rdI (ps k) j hj, w64 (j + 1) (by omega), w64 _ (by omega)]
                    refine ifp hp.1 (ifp (by omega) ?_)
                    by_cases h4 : (rdK l (ps k)[j]).f0 + 14 ≤ k.f0
                    · have h4' : (rd_T37 l (ps k)[j]).f0 + 14 ≤ k.f0 := h4
                      refine ifn (by omega) (ih2 (j + 1) (by omega) (by omega) ?_)
                      intro h5
                      apply h3
                      rw [List.drop_eq_getElem_cons hj]
                      simp only [List.mem_cons, forall_eq_or_imp]
                      exact ⟨h4, h5⟩
                    · have h4' : ¬ (rd_T37 l (ps k)[j]).f0 + 14 ≤ k.f0 := h4
                      exact ifp (by omega) now
                  · exact absurd (by rw [List.drop_eq_nil_of_le (by omega)]; simp) h3
              exact stuck _ 0 (by omega) (Nat.le_refl _) (by simpa using nf)
        have bad : ¬ Fits l i k → (false : Bool) = (if Fits l i k then dec (FamFrom l i) else false) := fun h => by rw [if_neg h]
        refine .inr (Ev.step (f := fun k => _) (fun k => by rw [impl_IsFamily.l0]) (ifp (by omega) (ifp (by omega) (ifp (by omega) ?_))))
        rw [rdK_get l i hi, hk, w64 ((i : Int) - 1) (by omega)]
        refine call (between _ _ _) ?_
        by_cases a0 : 0 ≤ k.f0 ∧ k.f0 ≤ 3000
        · refine ifp (by simpa using a0) (call (between _ _ _) ?_)
          by_cases a1 : -1 ≤ k.f1 ∧ k.f1 ≤ (i : Int) - 1
          · refine ifp (by simpa using a1) (call (between _ _ _) ?_)
            by_cases a2 : -1 ≤ k.f2 ∧ k.f2 ≤ (i : Int) - 1
            · refine ifp (by simpa using a2) ?_
              by_cases b0 : k.f2 ≥ 0
              · refine ifp b0 ?_
                by_cases b1 : k.f2 ≤ k.f1
                · exact ifp b1 (go _ (by symm; rw [decide_eq_true_iff]; omega) a0 a1 a2)
                · refine ifn b1 ?_
                  by_cases b2 : k.f1 < 0
                  · exact ifp b2 (go _ (by rw [decide_eq_decide]; omega) a0 a1 a2)
                  · exact ifn b2 (go _ (by symm; rw [decide_eq_false_iff_not]; omega) a0 a1 a2)
              · refine ifn b0 ?_
                by_cases b2 : k.f1 < 0
                · exact ifp b2 (go _ (by rw [decide_eq_decide]; omega) a0 a1 a2)
                · exact ifn b2 (go _ (by symm; rw [decide_eq_false_iff_not]; omega) a0 a1 a2)
            · refine ifn (by simpa using a2) ?_
              have nf : ¬ Fits l i k := fun h => a2 ((Fits_own l i k).1 h).1.2.2.1
              refine Ev.step (f := fun k => _) (fun k => by rw [impl_IsFamily.j1]) (ifp rfl (evEq now (bad nf)))
          · refine ifn (by simpa using a1) ?_
            have nf : ¬ Fits l i k := fun h => a1 ((Fits_own l i k).1 h).1.2.1
            refine Ev.step (f := fun k => _) (fun k => by rw [impl_IsFamily.j1]) (ifp rfl (evEq now (bad nf)))
        · refine ifn (by simpa using a0) ?_
          have nf : ¬ Fits l i k := fun h => a0 h.1
          refine Ev.step (f := fun k => _) (fun k => by rw [impl_IsFamily.j1]) (ifp rfl (evEq now (bad nf)))
      rcases key with key | key
      · refine evEq key ?_
        by_cases hf : Fits l i l[i]
        · rw [if_pos hf]; exact dec_congr (FamFrom_step l i hi hf)
        · rw [if_neg hf]; symm; exact dec_neg fun h => hf (h i (Nat.le_refl _) hi)
      · refine evEq key ?_
        by_cases hf : Fits l i l[i]
        · rw [if_pos hf]
        · rw [if_neg hf]; symm; exact dec_neg fun h => hf (h i (Nat.le_refl _) hi)
    · obtain rfl : i = l.length := by omega
      exact stop
theorem isFamily (l : List Kn) (hl : l.length ≤ 1073741824) : Ev (fun k => impl_IsFamily.f k l) (good l) := by
  unfold impl_IsFamily.f
  refine call (between _ _ _) ?_
  by_cases h : 1 ≤ l.length ∧ l.length ≤ 14
  · refine ifp (by simp; omega) (evEq (isFamily_l l hl _ 0 (by omega) (Nat.le_refl _) (fun j hj => absurd hj (Nat.not_lt_zero _))) ?_)
    refine dec_congr ?_
    constructor
    · intro h1; exact ⟨h, fun i hi => h1 i (by omega) hi⟩
    · intro h1 j _ hj; exact h1.2 j hj
  · refine ifn (by simp; omega) (evEq now ?_)
    rw [good_not l fun h1 => h h1.1]
end Go.Proofs.YtllihaahppelhaaDoor.Pr
namespace Go.Proofs.YtllihaahppelhaaDoor.Pr
open Go.RowKit Go.Proofs.YtllihaahppelhaaDoor.P Go.Proofs.YtllihaahppelhaaDoorW.PrintWords Go.Proofs.YtllihaahppelhaaDoor.E
theorem faParents_l (L : List Int) (hL : L.length ≤ 1000) (n : Nat) : ∀ (i : Nat) (acc : List Int), i ≤ L.length → L.length - i ≤ n → acc.length ≤ i →
    Ev (fun k => spec_faParents.l0 k acc L (L.length : Int) (i : Int)) (acc ++ (L.drop i).filter fun x => !decide (x < 0)) := by
  induction n with
  | zero =>
    intro i acc h1 h2 h3
    obtain rfl : i = L.length := by omega
    refine Ev.step (f := fun k => _) (fun k => by rw [spec_faParents.l0]) (ifn (by omega) (evEq now ?_))
    simp
  | succ n ih =>
    intro i acc h1 h2 h3
    by_cases hi : i < L.length
    · refine Ev.step (f := fun k => _) (fun k => by rw [spec_faParents.l0]) (ifp (by omega) (ifp (by omega) (ifp (by omega) ?_)))
      rw [rdI L i hi, w64 _ (by omega), List.drop_eq_getElem_cons hi]
      by_cases hx : L[i] ≥ 0
      · refine ifp hx (ifp (by omega) (evEq (ih (i + 1) (acc ++ [L[i]]) (by omega) (by omega) (by simp; omega)) ?_))
        rw [List.filter_cons_of_pos (by simpa using hx)]
        simp
      · refine ifn hx (evEq (ih (i + 1) acc (by omega) (by omega) (by omega)) ?_)
        rw [List.filter_cons_of_neg (by simp; omega)]
    · obtain rfl : i = L.length := by omega
      refine Ev.step (f := fun k => _) (fun k => by rw [spec_faParents.l0]) (ifn (by omega) (evEq now ?_))
      simp
theorem faParents (l : List Kn) (i : Nat) (hi : i < l.length) : Ev (fun k => spec_faParents.f k l (i : Int)) (ps l[i]) := by
  unfold spec_faParents.f
  refine ifp (by omega) (ifp (by omega) ?_)
  rw [rdK_get l i hi]
  exact faParents_l [l[i].f1, l[i].f2] (by simp) _ 0 [] (by omega) (Nat.le_refl _) (by simp)
end Go.Proofs.YtllihaahppelhaaDoor.Pr
namespace Go.Proofs.YtllihaahppelhaaDoor.Pr
open Go.RowKit Go.Proofs.YtllihaahppelhaaDoor.P Go.Proofs.YtllihaahppelhaaDoorW.PrintWords Go.Proofs.YtllihaahppelhaaDoor.E
/-- The parents of somebody. -/
abbrev pp (l : List Kn) (i : Int) : List Int := ps (rdK l i)
theorem faParentsI (l : List Kn) (i : Int) (h : 0 ≤ i ∧ i < (l.length : Int)) : Ev (fun k => spec_faParents.f k l i) (pp l i) := by
  obtain ⟨h2, e2⟩ := rdK_int l i h.1 h.2
  have := faParents l i.toNat h2
  rw [Int.toNat_of_nonneg h.1] at this
  show Ev _ (ps (rd_T37 l i))
  rw [e2]
  exact this
theorem Fam_pp (l : List Kn) (hf : Fam l) (i p : Int) (hi : 0 ≤ i ∧ i < (l.length : Int)) (hp : p ∈ pp l i) : 0 ≤ p ∧ p < i := by
  obtain ⟨h2, e2⟩ := rdK_int l i hi.1 hi.2
  change p ∈ ps (rd_T37 l i) at hp
  rw [e2] at hp
  have h3 := hf.2 _ h2
  have h4 := (mem_ps _ p).1 hp
  unfold Fits at h3
  omega
end Go.Proofs.YtllihaahppelhaaDoor.Pr
namespace Go.Proofs.YtllihaahppelhaaDoor.Ft
open Go.RowKit Go.Proofs.YtllihaahppelhaaDoor.P Go.Proofs.YtllihaahppelhaaDoor.Pr Go.Proofs.YtllihaahppelhaaDoor.E Go.Proofs.YtllihaahppelhaaDoorW.PrintWords Go.Proofs.YtllihaahppelhaaDoor.Tx
def Small (L : List Int) : Prop := ∀ p ∈ L, 0 ≤ p ∧ p ≤ 1000000
/-- Numbers' text. -/
def nums (L : List Int) : List UInt8 := Lib.join (L.map num) [46]
/-- Somebody's text. -/
def item (k : Kn) : List UInt8 := nums (k.f0 :: ps k)
def items (l : List Kn) : List (List UInt8) := l.map item
theorem lit46 : (⟨#[46]⟩ : ByteArray) = mk [46] := rfl
theorem lit59 : (⟨#[59]⟩ : ByteArray) = mk [59] := rfl
theorem joined_l (L : List Int) (hL : Small L) (h9 : L.length ≤ 900) (n : Nat) : ∀ i : Nat, i ≤ L.length → L.length - i ≤ n →
    Ev (fun k => impl_joined.l0 k ⟨#[46]⟩ (((L.take i).map num).map mk) L (L.length : Int) (i : Int)) (mk (nums L)) := by
  have stop : Ev (fun k => impl_joined.l0 k ⟨#[46]⟩ (((L.take L.length).map num).map mk) L (L.length : Int) (L.length : Int)) (mk (nums L)) := by
    refine Ev.step (f := fun k => _) (fun k => by rw [impl_joined.l0]) (ifn (by omega) ?_)
    rw [List.take_length]
    refine call (join (L.map num) 46 (by rw [List.length_map]; omega) 7 (by decide) (fun x hx => ?_)) ?_
    · obtain ⟨p, hp, rfl⟩ := List.mem_map.1 hx
      exact num_len p (hL p hp).2
    · exact now
  induction n with
  | zero =>
    intro i h1 h2
    obtain rfl : i = L.length := by omega
    exact stop
  | succ n ih =>
    intro i h1 h2
    by_cases hi : i < L.length
    · have hx := hL L[i] (List.getElem_mem hi)
      have hnext := ih (i + 1) (by omega) (by omega)
      have hw : wrap64 ((i : Int) + 1) = ((i + 1 : Nat) : Int) := by rw [w64 _ (by omega)]; omega
      rw [List.take_add_one, List.getElem?_eq_getElem hi, List.map_append, List.map_append] at hnext
      refine Ev.step (f := fun k => _) (fun k => by rw [impl_joined.l0]) (ifp (by omega) (ifp (by omega) (ifp (by omega) ?_)))
      rw [rdI L i hi]
      refine call (itoa L[i] hx.1 hx.2) (ifp (by rw [List.length_map, List.length_map, List.length_take]; omega) ?_)
      rw [hw]
      exact hnext
    · obtain rfl : i = L.length := by omega
      exact stop
theorem joined (L : List Int) (hL : Small L) (h9 : L.length ≤ 900) : Ev (fun k => impl_joined.f k L ⟨#[46]⟩) (mk (nums L)) := by
  have := joined_l L hL h9 _ 0 (Nat.zero_le _) (Nat.le_refl _)
  exact this
theorem kin_small (l : List Kn) (hf : Fam l) (i : Nat) (hi : i < l.length) : Small (l[i].f0 :: ps l[i]) ∧ (l[i].f0 :: ps l[i]).length ≤ 3 := by
  have hl := hf.1.2
  refine ⟨fun p hp => ?_, by have := ps_len l[i]; simp; omega⟩
  rcases List.mem_cons.1 hp with rfl | hp
  · have := (hf.2 i hi).1
    exact ⟨this.1, by omega⟩
  · have hr : rdK l (i : Int) = l[i] := rdK_get l i hi
    have := Fam_pp l hf (i : Int) p ⟨by omega, by omega⟩ (by show p ∈ ps (rdK l (i : Int)); rw [hr]; exact hp)
    exact ⟨this.1, by omega⟩
theorem item_len (l : List Kn) (hf : Fam l) (i : Nat) (hi : i < l.length) : (item l[i]).length ≤ 24 := by
  obtain ⟨h1, h2⟩ := kin_small l hf i hi
  have := join_len 7 [46] rfl ((l[i].f0 :: ps l[i]).map num) (fun x hx => by
    obtain ⟨p, hp, rfl⟩ := List.mem_map.1 hx
    exact num_len p (h1 p hp).2)
  rw [List.length_map] at this
  unfold item nums
  omega
theorem items_len (l : List Kn) (hf : Fam l) : ∀ x ∈ items l, x.length ≤ 24 := by
  intro x hx
  obtain ⟨y, hy, rfl⟩ := List.mem_map.1 hx
  obtain ⟨i, hi, rfl⟩ := List.mem_iff_getElem.1 hy
  exact item_len l hf i hi
theorem items_take (l : List Kn) (i : Nat) (h : i < l.length) : items (l.take (i + 1)) = items (l.take i) ++ [item l[i]] := by
  unfold items
  rw [List.take_add_one, List.getElem?_eq_getElem h, List.map_append]
  rfl
theorem join_bd (l : List Kn) (hf : Fam l) (i : Nat) : (Lib.join (items (l.take i)) [59]).length ≤ 350 := by
  have h1 := join_len 24 [59] rfl (items (l.take i)) (fun x hx => items_len l hf x (by
    obtain ⟨y, hy, rfl⟩ := List.mem_map.1 hx
    exact List.mem_map.2 ⟨y, List.mem_of_mem_take hy, rfl⟩))
  have h2 : (items (l.take i)).length ≤ 14 := by unfold items; rw [List.length_map, List.length_take]; have := hf.1.2; omega
  omega
theorem familyText_l (l : List Kn) (hf : Fam l) (n : Nat) : ∀ i : Nat, i ≤ l.length → l.length - i ≤ n →
    Ev (fun k => impl_familyText.l0 k ((items (l.take i)).map mk) l (l.length : Int) (i : Int)) (mk (Lib.join (items l) [59])) := by
  have hl := hf.1.2
  have stop : Ev (fun k => impl_familyText.l0 k ((items (l.take l.length)).map mk) l (l.length : Int) (l.length : Int)) (mk (Lib.join (items l) [59])) := by
    refine Ev.step (f := fun k => _) (fun k => by rw [impl_familyText.l0]) (ifn (by omega) ?_)
    rw [List.take_length]
    refine call (join (items l) 59 (by unfold items; rw [List.length_map]; omega) 24 (by decide) (items_len l hf)) ?_
    exact now
  induction n with
  | zero =>
    intro i h1 h2
    obtain rfl : i = l.length := by omega
    exact stop
  | succ n ih =>
    intro i h1 h2
    by_cases hi : i < l.length
    · obtain ⟨k1, k2⟩ := kin_small l hf i hi
      have hnext := ih (i + 1) (by omega) (by omega)
      have hw : wrap64 ((i : Int) + 1) = ((i + 1 : Nat) : Int) := by rw [w64 _ (by omega)]; omega
      rw [items_take l i hi, List.map_append] at hnext
      have hr : rd_T37 l (i : Int) = l[i] := rdK_get l i hi
      refine Ev.step (f := fun k => _) (fun k => by rw [impl_familyText.l0]) (ifp (by omega) (ifp (by omega) (ifp (by omega) ?_)))
      rw [hr]
      refine call rfl (call (parents_f l[i]) (ifp (by simp at k2 ⊢; omega) ?_))
      refine Ev.bind (joined (l[i].f0 :: ps l[i]) k1 (by omega)) (ifp (by unfold items; rw [List.length_map, List.length_map, List.length_take]; omega) ?_)
      rw [hw]
      exact hnext
    · obtain rfl : i = l.length := by omega
      exact stop
theorem familyText (l : List Kn) (hf : Fam l) : Ev (fun k => impl_familyText.f k l) (mk (Lib.join (items l) [59])) := by
  have := familyText_l l hf _ 0 (Nat.zero_le _) (Nat.le_refl _)
  exact this
theorem tail_take (L : List Int) (i : Nat) (h : i < L.length) : Lib.joinTail [46] ((L.take (i + 1)).map num) = Lib.joinTail [46] ((L.take i).map num) ++ ([46] ++ num L[i]) := by
  rw [List.take_add_one, List.getElem?_eq_getElem h, List.map_append]
  simp [Lib.joinTail]
theorem tail_len (L : List Int) (hL : Small L) (i : Nat) (h2 : L.length ≤ 2) : (Lib.joinTail [46] ((L.take i).map num)).length ≤ 24 := by
  have := join_len 7 [46] rfl ([] :: (L.take i).map num) (fun x hx => by
    rcases List.mem_cons.1 hx with rfl | hx
    · simp
    · obtain ⟨p, hp, rfl⟩ := List.mem_map.1 hx
      exact num_len p (hL p (List.mem_of_mem_take hp)).2)
  rw [Lib.join_cons, List.nil_append, List.length_cons, List.length_map, List.length_take] at this
  omega
theorem faText_l1 (l : List Kn) (i : Int) (L : List Int) (hL : Small L) (h2 : L.length ≤ 2) (r : ByteArray) (base : List UInt8) (hb : base.length ≤ 1000)
    (hr : Ev (fun k => spec_faText.l0 k l (mk (base ++ Lib.joinTail [46] (L.map num))) l (l.length : Int) (wrap64 (i + 1))) r) (n : Nat) : ∀ j : Nat, j ≤ L.length → L.length - j ≤ n →
    Ev (fun k => spec_faText.l1 k l (mk (base ++ Lib.joinTail [46] ((L.take j).map num))) l (l.length : Int) i L (L.length : Int) (j : Int)) r := by
  have stop : Ev (fun k => spec_faText.l1 k l (mk (base ++ Lib.joinTail [46] ((L.take L.length).map num))) l (l.length : Int) i L (L.length : Int) (L.length : Int)) r := by
    refine Ev.step (f := fun k => _) (fun k => by rw [spec_faText.l1]) (ifn (by omega) ?_)
    rw [List.take_length]; exact hr
  induction n with
  | zero =>
    intro j h1 h3
    obtain rfl : j = L.length := by omega
    exact stop
  | succ n ih =>
    intro j h1 h3
    by_cases hj : j < L.length
    · have hx := hL L[j] (List.getElem_mem hj)
      have hn := num_len L[j] hx.2
      have ht := tail_len L hL j h2
      have hnext := ih (j + 1) (by omega) (by omega)
      have hw : wrap64 ((j : Int) + 1) = ((j + 1 : Nat) : Int) := by rw [w64 _ (by omega)]; omega
      rw [tail_take L j hj, ← List.append_assoc] at hnext
      refine Ev.step (f := fun k => _) (fun k => by rw [spec_faText.l1]) (ifp (by omega) (ifp (by omega) (ifp (by omega) ?_)))
      rw [rdI L j hj, lit46]
      refine Ev.bind (l1Num _ L[j] hx.1 hx.2 (Nat.le_refl _)) (ifp (by rw [mk_size]; omega) ?_)
      rw [mk_app]
      refine ifp (by rw [mk_size, mk_size, List.length_append, List.length_append, List.length_cons, List.length_nil]; omega) ?_
      rw [mk_app, hw]
      exact hnext
    · obtain rfl : j = L.length := by omega
      exact stop
theorem faText_j1 (l : List Kn) (hf : Fam l) (i : Nat) (hi : i < l.length) (r : ByteArray) (base : List UInt8) (hb : base.length ≤ 900)
    (hr : Ev (fun k => spec_faText.l0 k l (mk (base ++ item l[i])) l (l.length : Int) (wrap64 ((i : Int) + 1))) r) :
    Ev (fun k => spec_faText.j1 k l (mk base) (i : Int) l (l.length : Int) (i : Int) l[i].f0 l[i].f1 l[i].f2) r := by
  obtain ⟨k1, k2⟩ := kin_small l hf i hi
  have h0 := k1 l[i].f0 (List.mem_cons_self ..)
  have hps : Small (ps l[i]) := fun p hp => k1 p (List.mem_cons_of_mem _ hp)
  have hn := num_len l[i].f0 h0.2
  refine Ev.step (f := fun k => _) (fun k => by rw [spec_faText.j1]) ?_
  refine Ev.bind (l1Num _ l[i].f0 h0.1 h0.2 (Nat.le_refl _)) (ifp (by rw [mk_size, mk_size]; omega) ?_)
  refine Ev.bind (faParents l i hi) ?_
  rw [mk_app]
  have e : base ++ item l[i] = (base ++ num l[i].f0) ++ Lib.joinTail [46] ((ps l[i]).map num) := by
    unfold item nums
    rw [List.map_cons, Lib.join_cons, List.append_assoc]
  rw [e] at hr
  have := faText_l1 l (i : Int) (ps l[i]) hps (ps_len _) r (base ++ num l[i].f0) (by simp; omega) hr _ 0 (Nat.zero_le _) (Nat.le_refl _)
  rw [List.take_zero, show Lib.joinTail [46] (([] : List Int).map num) = [] from rfl, List.append_nil] at this
  exact this
theorem faText_l (l : List Kn) (hf : Fam l) (n : Nat) : ∀ i : Nat, i ≤ l.length → l.length - i ≤ n →
    Ev (fun k => spec_faText.l0 k l (mk (Lib.join (items (l.take i)) [59])) l (l.length : Int) (i : Int)) (mk (Lib.join (items l) [59])) := by
  have hl := hf.1.2
  have stop : Ev (fun k => spec_faText.l0 k l (mk (Lib.join (items (l.take l.length)) [59])) l (l.length : Int) (l.length : Int)) (mk (Lib.join (items l) [59])) := by
    refine Ev.step (f := fun k => _) (fun k => by rw [spec_faText.l0]) (ifn (by omega) ?_)
    rw [List.take_length]; exact now
  induction n with
  | zero =>
    intro i h1 h2
    obtain rfl : i = l.length := by omega
    exact stop
  | succ n ih =>
    intro i h1 h2
    by_cases hi : i < l.length
    · have hjb := join_bd l hf i
      have hnext := ih (i + 1) (by omega) (by omega)
      have hw : wrap64 ((i : Int) + 1) = ((i + 1 : Nat) : Int) := by rw [w64 _ (by omega)]; omega
      rw [items_take l i hi] at hnext
      have hr : rd_T37 l (i : Int) = l[i] := rdK_get l i hi
      refine Ev.step (f := fun k => _) (fun k => by rw [spec_faText.l0]) (ifp (by omega) (ifp (by omega) (ifp (by omega) ?_)))
      rw [hr, lit59]
      by_cases h0 : i = 0
      · subst h0
        refine ifn (by omega) (faText_j1 l hf 0 hi _ _ (by omega) ?_)
        rw [hw]
        have e : Lib.join (items (l.take 0)) [59] ++ item l[0] = Lib.join (items (l.take 0) ++ [item l[0]]) [59] := by
          rw [List.take_zero]
          show Lib.join [] [59] ++ _ = Lib.join ([] ++ [item l[0]]) [59]
          rw [List.nil_append, Lib.join_one, Lib.join_nil, List.nil_append]
        rw [e]
        exact hnext
      · refine ifp (by omega) (ifp (by rw [mk_size]; omega) ?_)
        rw [mk_app]
        refine faText_j1 l hf i hi _ _ (by simp; omega) ?_
        rw [hw]
        have hne : items (l.take i) ≠ [] := by
          intro e
          have := congrArg List.length e
          unfold items at this
          rw [List.length_map, List.length_take, List.length_nil] at this
          omega
        rw [join_snoc _ _ _ hne] at hnext
        exact hnext
    · obtain rfl : i = l.length := by omega
      exact stop
theorem faText (l : List Kn) (hf : Fam l) : Ev (fun k => spec_faText.f k l) (mk (Lib.join (items l) [59])) := by
  have := faText_l l hf _ 0 (Nat.zero_le _) (Nat.le_refl _)
  exact this
end Go.Proofs.YtllihaahppelhaaDoor.Ft
namespace Go.Proofs.YtllihaahppelhaaDoor.Pr
open Go.RowKit Go.Proofs.YtllihaahppelhaaDoor.P Go.Proofs.YtllihaahppelhaaDoorW.PrintWords Go.Proofs.YtllihaahppelhaaDoor.E
def marksK (n : Nat) (m : Int) : List Kn := (List.range n).map fun i : Nat => ⟨m + 3 * (i : Int), m + 3 * (i : Int) + 1, m + 3 * (i : Int) + 1 + 1⟩
theorem marksK_length (n : Nat) (m : Int) : (marksK n m).length = n := by simp [marksK]
theorem marksK_get (n : Nat) (m : Int) (i : Nat) (h : i < n) : (marksK n m)[i]'(by rw [marksK_length]; exact h) = ⟨m + 3 * (i : Int), m + 3 * (i : Int) + 1, m + 3 * (i : Int) + 1 + 1⟩ := by simp [marksK]
theorem setK_mid (l : List Kn) (m : Int) (i : Nat) (h : i < l.length) (x : Kn) : (marksK i m ++ l.drop i).set i x = marksK i m ++ x :: l.drop (i + 1) := by
  rw [List.set_append_right _ _ (by rw [marksK_length]; exact Nat.le_refl _), marksK_length, Nat.sub_self, List.drop_eq_getElem_cons h, List.set_cons_zero]
theorem setK_mid2 (l : List Kn) (m : Int) (i : Nat) (x y : Kn) : (marksK i m ++ y :: l.drop (i + 1)).set i x = marksK i m ++ x :: l.drop (i + 1) := by
  rw [List.set_append_right _ _ (by rw [marksK_length]; exact Nat.le_refl _), marksK_length, Nat.sub_self, List.set_cons_zero]
theorem rdK_mid (l : List Kn) (m : Int) (i : Nat) (y : Kn) : rd_T37 (marksK i m ++ y :: l.drop (i + 1)) (i : Int) = y := by
  rw [rdK_get _ i (by simp [marksK_length]), List.getElem_append_right (by rw [marksK_length]; exact Nat.le_refl _)]
  simp only [marksK_length, Nat.sub_self, List.getElem_cons_zero]
theorem marksK_succ (l : List Kn) (m : Int) (i : Nat) : marksK i m ++ (⟨m + 3 * (i : Int), m + 3 * (i : Int) + 1, m + 3 * (i : Int) + 1 + 1⟩ : Kn) :: l.drop (i + 1) = marksK (i + 1) m ++ l.drop (i + 1) := by
  simp [marksK, List.range_succ]
theorem markKinS_l (l : List Kn) (hl : l.length ≤ 1099511627776) (m : Int) (hm : m.natAbs ≤ 4611686018427387904) (n : Nat) : ∀ i : Nat, i ≤ l.length → l.length - i ≤ n →
    Ev (fun k => laws_markKinS.l0 k (marksK i m ++ l.drop i) (m + 3 * i) (i : Int)) (m + 3 * l.length, marksK l.length m) := by
  have hlen : ∀ i, i ≤ l.length → (marksK i m ++ l.drop i).length = l.length := fun i h => by rw [List.length_append, marksK_length, List.length_drop]; omega
  have stop : Ev (fun k => laws_markKinS.l0 k (marksK l.length m ++ l.drop l.length) (m + 3 * l.length) (l.length : Int)) (m + 3 * l.length, marksK l.length m) := by
    have h := hlen l.length (Nat.le_refl _)
    refine Ev.step (f := fun k => _) (fun k => by rw [laws_markKinS.l0]) (ifn (by omega) (evEq now ?_))
    rw [List.drop_length, List.append_nil]
  induction n with
  | zero =>
    intro i h1 h2
    obtain rfl : i = l.length := by omega
    exact stop
  | succ n ih =>
    intro i h1 h2
    by_cases hi : i < l.length
    · have h := hlen i h1
      refine Ev.step (f := fun k => _) (fun k => by rw [laws_markKinS.l0]) (ifp (by omega) (ifp (by omega) ?_))
      simp only [Option.bind_some]
      rw [w64 (m + 3 * i + 1) (by omega), w64 (i + 1) (by omega), w64 (m + 3 * i + 1 + 1) (by omega), w64 _ (by omega), Int.toNat_natCast, setK_mid l m i hi, rdK_mid, setK_mid2, rdK_mid, setK_mid2]
      rw [marksK_succ]
      have := ih (i + 1) (by omega) (by omega)
      rw [show m + 3 * ((i + 1 : Nat) : Int) = m + 3 * (i : Int) + 1 + 1 + 1 by omega] at this
      exact this
    · obtain rfl : i = l.length := by omega
      exact stop
theorem markKinS (l : List Kn) (hl : l.length ≤ 1099511627776) (m : Int) (hm : m.natAbs ≤ 4611686018427387904) : Ev (fun k => laws_markKinS.f k l m) (m + 3 * l.length, marksK l.length m) := by
  have := markKinS_l l hl m hm _ 0 (by omega) (Nat.le_refl _)
  simpa [marksK, laws_markKinS.f] using this
end Go.Proofs.YtllihaahppelhaaDoor.Pr
namespace Go.Proofs.YtllihaahppelhaaDoor.Pr
open Go.RowKit Go.Proofs.YtllihaahppelhaaDoor.P Go.Proofs.YtllihaahppelhaaDoorW.PrintWords Go.Proofs.YtllihaahppelhaaDoor.E
theorem heldKinS_l (N : Nat) (hl : N ≤ 1099511627776) (m : Int) (hm : m.natAbs ≤ 4611686018427387904) (n : Nat) : ∀ i : Nat, i ≤ N → N - i ≤ n → Ev (fun k => laws_heldKinS.l0 k (marksK N m) (m + 3 * i) (i : Int)) (m + 3 * N) := by
  have stop : Ev (fun k => laws_heldKinS.l0 k (marksK N m) (m + 3 * N) (N : Int)) (m + 3 * N) :=
    Ev.step (f := fun k => _) (fun k => by rw [laws_heldKinS.l0]) (ifn (by rw [marksK_length]; omega) now)
  induction n with
  | zero =>
    intro i h1 h2
    obtain rfl : i = N := by omega
    exact stop
  | succ n ih =>
    intro i h1 h2
    by_cases hi : i < N
    · have e : rd_T37 (marksK N m) (i : Int) = ⟨m + 3 * (i : Int), m + 3 * (i : Int) + 1, m + 3 * (i : Int) + 1 + 1⟩ := by
        rw [rdK_get _ _ (by rw [marksK_length]; exact hi), marksK_get N m i hi]
      refine Ev.step (f := fun k => _) (fun k => by rw [laws_heldKinS.l0]) (ifp (by rw [marksK_length]; omega) (ifp (by omega) ?_))
      rw [e, w64 (m + 3 * i + 1) (by omega), w64 (i + 1) (by omega), w64 (m + 3 * i + 1 + 1) (by omega), w64 _ (by omega)]
      refine ifp rfl (ifp rfl (ifp rfl ?_))
      have := ih (i + 1) (by omega) (by omega)
      rw [show m + 3 * ((i + 1 : Nat) : Int) = m + 3 * (i : Int) + 1 + 1 + 1 by omega] at this
      exact this
    · obtain rfl : i = N := by omega
      exact stop
theorem heldKinS (N : Nat) (hl : N ≤ 1099511627776) (m : Int) (hm : m.natAbs ≤ 4611686018427387904) : Ev (fun k => laws_heldKinS.f k (marksK N m) m) (m + 3 * N) := by
  have := heldKinS_l N hl m hm _ 0 (by omega) (Nat.le_refl _)
  simpa [laws_heldKinS.f] using this
end Go.Proofs.YtllihaahppelhaaDoor.Pr
namespace Go.Proofs.YtllihaahppelhaaDoor.Pure
open Go.RowKit Go.Proofs.YtllihaahppelhaaDoor.P Go.Proofs.YtllihaahppelhaaDoor.Pr Go.Proofs.YtllihaahppelhaaDoor.E Go.Proofs.YtllihaahppelhaaDoorW.PrintWords Go.Proofs.YtllihaahppelhaaDoor.Tx Go.Proofs.YtllihaahppelhaaDoor.Pa Go.Proofs.YtllihaahppelhaaDoor.Ft
abbrev Res := List Kn × Bool
/-- A family's text. -/
def txt (zs : List Kn) : List UInt8 := Lib.join (items zs) [59]
/-- What may be told of a text: nothing, or a family of which it is the text. -/
def Shape (l : List UInt8) (v : Res) : Prop := v = ([], false) ∨ ∃ zs, v = (zs, true) ∧ Fam zs ∧ txt zs = l
theorem Shape.none (l : List UInt8) : Shape l ([], false) := .inl rfl
theorem Shape.len {l : List UInt8} {v : Res} (h : Shape l v) : v.1.length ≤ 1048576 := by
  rcases h with rfl | ⟨zs, rfl, hf, _⟩
  · simp
  · have := hf.1.2; show zs.length ≤ _; omega
theorem parts_none (c : UInt8) (l : List UInt8) (h : c ∉ l) : parts c l = [l] := by
  induction l with
  | nil => rfl
  | cons b l ih =>
    have hb : b ≠ c := fun e => h (by rw [e]; exact List.mem_cons_self ..)
    obtain ⟨x, r, e1, e2⟩ := parts_cons_ne c b l hb
    rw [ih fun hl => h (List.mem_cons_of_mem _ hl)] at e1
    obtain ⟨rfl, rfl⟩ := List.cons.inj e1
    exact e2
theorem parts_app (c : UInt8) (x l : List UInt8) (h : c ∉ x) : parts c (x ++ c :: l) = x :: parts c l := by
  induction x with
  | nil => exact parts_cons_eq c l
  | cons b x ih =>
    have hb : b ≠ c := fun e => h (by rw [e]; exact List.mem_cons_self ..)
    obtain ⟨y, r, e1, e2⟩ := parts_cons_ne c b (x ++ c :: l) hb
    rw [ih fun hl => h (List.mem_cons_of_mem _ hl)] at e1
    obtain ⟨rfl, rfl⟩ := List.cons.inj e1
    exact e2
theorem parts_join (c : UInt8) : ∀ (xs : List (List UInt8)), xs ≠ [] → (∀ x ∈ xs, c ∉ x) → parts c (Lib.join xs [c]) = xs
  | [], h, _ => absurd rfl h
  | [x], _, h => by rw [Lib.join_one]; exact parts_none c x (h x (List.mem_cons_self ..))
  | x :: y :: r, _, h => by
    have ih := parts_join c (y :: r) (by simp) fun z hz => h z (List.mem_cons_of_mem _ hz)
    have e : Lib.join (x :: y :: r) [c] = x ++ c :: Lib.join (y :: r) [c] := by
      rw [Lib.join_cons, Lib.join_cons]
      simp [Lib.joinTail]
    rw [e, parts_app c x _ (h x (List.mem_cons_self ..)), ih]
theorem num_no (n : Int) (c : UInt8) (hc : dgt c = false) : c ∉ num n := by
  intro h
  have := (num_dgt n.toNat n.toNat (Nat.le_refl _)).1
  have := List.all_eq_true.1 this c h
  rw [hc] at this
  cases this
theorem join_mem (c : UInt8) (xs : List (List UInt8)) (d : UInt8) (h : d ∈ Lib.join xs [c]) : d = c ∨ ∃ x ∈ xs, d ∈ x := by
  cases xs with
  | nil => rw [Lib.join_nil] at h; cases h
  | cons x r =>
    rw [Lib.join_cons] at h
    rcases List.mem_append.1 h with h | h
    · exact .inr ⟨x, List.mem_cons_self .., h⟩
    · unfold Lib.joinTail at h
      obtain ⟨y, hy, hd⟩ := List.mem_flatten.1 h
      obtain ⟨z, hz, rfl⟩ := List.mem_map.1 hy
      rcases List.mem_append.1 hd with hd | hd
      · exact .inl (List.mem_singleton.1 hd)
      · exact .inr ⟨z, List.mem_cons_of_mem _ hz, hd⟩
theorem item_parts (k : Kn) : parts 46 (item k) = (k.f0 :: ps k).map num :=
  parts_join 46 _ (by simp) fun x hx => by
    obtain ⟨n, _, rfl⟩ := List.mem_map.1 hx
    exact num_no n 46 (by decide)
theorem item_no (k : Kn) : (59 : UInt8) ∉ item k := by
  intro h
  rcases join_mem 46 _ 59 h with h | ⟨x, hx, h⟩
  · exact absurd h (by decide)
  · obtain ⟨n, _, rfl⟩ := List.mem_map.1 hx
    exact num_no n 59 (by decide) h
theorem txt_parts (zs : List Kn) (h : zs ≠ []) : parts 59 (txt zs) = items zs :=
  parts_join 59 _ (by unfold items; simpa using h) fun x hx => by
    obtain ⟨k, _, rfl⟩ := List.mem_map.1 hx
    exact item_no k
/-- Somebody, out of the own numbers. -/
theorem kin_cases (zs : List Kn) (hf : Fam zs) (i : Nat) (hi : i < zs.length) : (0 ≤ zs[i].f0 ∧ zs[i].f0 ≤ 3000) ∧
    ((zs[i].f1 = -1 ∧ zs[i].f2 = -1 ∧ ps zs[i] = []) ∨ ((0 ≤ zs[i].f1 ∧ zs[i].f1 < 14) ∧ ((zs[i].f2 = -1 ∧ ps zs[i] = [zs[i].f1]) ∨ ((0 ≤ zs[i].f2 ∧ zs[i].f2 < 14) ∧ ps zs[i] = [zs[i].f1, zs[i].f2])))) := by
  have h := hf.2 i hi
  have hl := hf.1.2
  generalize zs[i] = k at h
  obtain ⟨hy, h⟩ := h
  refine ⟨hy, ?_⟩
  rcases h with ⟨h1, h2⟩ | ⟨⟨a1, a2, _⟩, h3⟩
  · refine .inl ⟨h1, h2, ?_⟩
    simp [ps, h1, h2]
  · refine .inr ⟨⟨a1, by omega⟩, ?_⟩
    rcases h3 with h2 | h3
    · refine .inl ⟨h2, ?_⟩
      have : ¬ k.f1 < 0 := by omega
      simp [ps, h2, this]
    · have h4 : 0 ≤ k.f2 ∧ k.f2 < 14 := by
        have := h3
        omega
      refine .inr ⟨h4, ?_⟩
      have q1 : ¬ k.f1 < 0 := by omega
      have q2 : ¬ k.f2 < 0 := by omega
      simp [ps, q1, q2]
theorem txt_len (zs : List Kn) (hf : Fam zs) : (txt zs).length ≤ 154 := by
  have h1 := join_len 10 [59] rfl (items zs) (fun x hx => by
    obtain ⟨k, hk, rfl⟩ := List.mem_map.1 hx
    obtain ⟨i, hi, rfl⟩ := List.mem_iff_getElem.1 hk
    have hs := parts_sum 46 (item zs[i])
    rw [item_parts] at hs
    obtain ⟨⟨y1, y2⟩, hc⟩ := kin_cases zs hf i hi
    have d0 : (num zs[i].f0).length ≤ 4 := digits_len 3 zs[i].f0.toNat (by omega)
    rcases hc with ⟨_, _, e⟩ | ⟨⟨a1, a2⟩, ⟨_, e⟩ | ⟨⟨b1, b2⟩, e⟩⟩
    · rw [e] at hs; simp at hs; omega
    · have d1 : (num zs[i].f1).length ≤ 2 := digits_len 1 zs[i].f1.toNat (by omega)
      rw [e] at hs; simp at hs; omega
    · have d1 : (num zs[i].f1).length ≤ 2 := digits_len 1 zs[i].f1.toNat (by omega)
      have d2 : (num zs[i].f2).length ≤ 2 := digits_len 1 zs[i].f2.toNat (by omega)
      rw [e] at hs; simp at hs; omega)
  have h2 : (items zs).length = zs.length := List.length_map ..
  have := hf.1.2
  unfold txt
  omega
theorem num_ok (n : Int) (h0 : 0 ≤ n) (h1 : n < 1000000) : okOf (num n) = true ∧ nOf (num n) = n := (okOf_read (num n) n h0 h1).2 (num_read n h0 h1)
/-! The program. -/
theorem impl_end (l : List UInt8) (out : List Kn) (hl : out.length ≤ 2000001) (N : Int) (P : List (List UInt8)) (h : N = ((P.map mk).length : Int)) : ∃ v, Shape l v ∧ (Fam out → txt out = l → v = (out, true)) ∧ Ev (fun k => impl_ParseFamily.l0 k (mk l) out (P.map mk) N N) v := by
  subst h
  cases hg : good out with
  | false =>
    refine ⟨([], false), .none l, fun hf => absurd (good_of out hf) (by rw [hg]; simp), ?_⟩
    exact Ev.step (f := fun k => _) (fun k => by rw [impl_ParseFamily.l0]) (ifn (by omega) (Ev.bind (evEq (isFamily out (by omega)) hg) (ifn Bool.false_ne_true now)))
  | true =>
    have hf := (good_iff out).1 hg
    have ht := familyText out hf
    by_cases he : txt out = l
    · refine ⟨(out, true), .inr ⟨out, rfl, hf, he⟩, fun _ _ => rfl, ?_⟩
      refine Ev.step (f := fun k => _) (fun k => by rw [impl_ParseFamily.l0]) (ifn (by omega) (Ev.bind (evEq (isFamily out (by omega)) hg) (ifp rfl (Ev.bind ht (ifp ?_ now)))))
      rw [toList_mk, toList_mk]; exact he
    · refine ⟨([], false), .none l, fun _ e => absurd e he, ?_⟩
      refine Ev.step (f := fun k => _) (fun k => by rw [impl_ParseFamily.l0]) (ifn (by omega) (Ev.bind (evEq (isFamily out (by omega)) hg) (ifp rfl (Ev.bind ht (ifn ?_ now)))))
      rw [toList_mk, toList_mk]; exact he
theorem impl_any (l : List UInt8) (P : List (List UInt8)) (hP : ∀ p ∈ P, p.length ≤ 2000000) (hl : P.length ≤ 2000001) (n : Nat) : ∀ (i : Nat) (out : List Kn), i ≤ P.length → P.length - i ≤ n → out.length ≤ i →
    ∃ v, Shape l v ∧ Ev (fun k => impl_ParseFamily.l0 k (mk l) out (P.map mk) ((P.map mk).length : Int) (i : Int)) v := by
  have hm : (P.map mk).length = P.length := List.length_map ..
  have stop : ∀ out : List Kn, out.length ≤ P.length → ∃ v, Shape l v ∧ Ev (fun k => impl_ParseFamily.l0 k (mk l) out (P.map mk) ((P.map mk).length : Int) (P.length : Int)) v := by
    intro out ho
    obtain ⟨v, h1, _, h2⟩ := impl_end l out (by omega) (P.length : Int) P (by rw [hm])
    rw [hm]
    exact ⟨v, h1, h2⟩
  induction n with
  | zero =>
    intro i out h1 h2 h3
    obtain rfl : i = P.length := by omega
    exact stop out h3
  | succ n ih =>
    intro i out h1 h2 h3
    by_cases hi : i < P.length
    · have hw : wrap64 ((i : Int) + 1) = ((i + 1 : Nat) : Int) := by rw [w64 _ (by omega)]; omega
      have hn := fun out' h => ih (i + 1) out' (by omega) (by omega) h
      have hj : ∀ (L : List Int) (b : Bool), 0 < L.length → ∃ v, Shape l v ∧ Ev (fun k => impl_ParseFamily.j1 k (mk l) out L (P.map mk) ((P.map mk).length : Int) (i : Int) b) v := by
        intro L b h0
        cases b with
        | true => exact ⟨([], false), .none l, Ev.step (f := fun k => _) (fun k => by rw [impl_ParseFamily.j1]) (ifp rfl now)⟩
        | false =>
          have nx : ∀ x : Kn, ∃ v, Shape l v ∧ Ev (fun k => impl_ParseFamily.l0 k (mk l) (out ++ [x]) (P.map mk) ((P.map mk).length : Int) (wrap64 ((i : Int) + 1))) v := by
            intro x
            rw [hw]
            exact hn _ (by simp; omega)
          have ho : out.length < 5864062014805 := by omega
          by_cases c1 : 1 < L.length
          · by_cases c2 : 2 < L.length
            · obtain ⟨v, hv, e⟩ := nx ⟨rd L 0, rd L 1, rd L 2⟩
              exact ⟨v, hv, Ev.step (f := fun k => _) (fun k => by rw [impl_ParseFamily.j1]) (ifn (by simp) (ifp (by omega) (ifp (by omega) (ifp (by omega) (ifp (by omega) (ifp (by omega) (ifp ho e)))))))⟩
            · obtain ⟨v, hv, e⟩ := nx ⟨rd L 0, rd L 1, -1⟩
              exact ⟨v, hv, Ev.step (f := fun k => _) (fun k => by rw [impl_ParseFamily.j1]) (ifn (by simp) (ifp (by omega) (ifp (by omega) (ifp (by omega) (ifn (by omega) (ifp ho e))))))⟩
          · obtain ⟨v, hv, e⟩ := nx ⟨rd L 0, -1, -1⟩
            exact ⟨v, hv, Ev.step (f := fun k => _) (fun k => by rw [impl_ParseFamily.j1]) (ifn (by simp) (ifp (by omega) (ifn (by omega) (ifn (by omega) (ifp ho e)))))⟩
      have hr := readNumbers P[i] 46 (hP _ (List.getElem_mem hi))
      have hne : 0 < (parts 46 P[i]).length := by
        rcases Nat.eq_zero_or_pos (parts 46 P[i]).length with h | h
        · exact absurd (List.length_eq_zero_iff.1 h) (parts_ne 46 P[i])
        · exact h
      by_cases ho : (parts 46 P[i]).all okOf = true
      · rw [if_pos ho] at hr
        by_cases c3 : 3 < (parts 46 P[i]).length
        · obtain ⟨v, hv, e⟩ := hj ((parts 46 P[i]).map nOf) true (by rw [List.length_map]; exact hne)
          refine ⟨v, hv, Ev.step (f := fun k => _) (fun k => by rw [impl_ParseFamily.l0]) (ifp (by omega) (ifp (by omega) (ifp (by omega) ?_)))⟩
          rw [rdOf_mk P i hi]
          exact Ev.bind hr (ifp rfl (ifp (by rw [List.length_map]; omega) e))
        · obtain ⟨v, hv, e⟩ := hj ((parts 46 P[i]).map nOf) ((out.length : Int) == 14) (by rw [List.length_map]; exact hne)
          refine ⟨v, hv, Ev.step (f := fun k => _) (fun k => by rw [impl_ParseFamily.l0]) (ifp (by omega) (ifp (by omega) (ifp (by omega) ?_)))⟩
          rw [rdOf_mk P i hi]
          exact Ev.bind hr (ifp rfl (ifn (by rw [List.length_map]; omega) e))
      · rw [if_neg ho] at hr
        refine ⟨([], false), .none l, Ev.step (f := fun k => _) (fun k => by rw [impl_ParseFamily.l0]) (ifp (by omega) (ifp (by omega) (ifp (by omega) ?_)))⟩
        rw [rdOf_mk P i hi]
        refine Ev.bind hr (ifn (by simp) ?_)
        exact Ev.step (f := fun k => _) (fun k => by rw [impl_ParseFamily.j1]) (ifp rfl now)
    · obtain rfl : i = P.length := by omega
      exact stop out h3
theorem take_snoc (zs : List Kn) (i : Nat) (hi : i < zs.length) : zs.take (i + 1) = zs.take i ++ [zs[i]] := by
  rw [List.take_add_one, List.getElem?_eq_getElem hi]
  rfl
theorem impl_own (zs : List Kn) (hf : Fam zs) (n : Nat) : ∀ i : Nat, i ≤ zs.length → zs.length - i ≤ n →
    Ev (fun k => impl_ParseFamily.l0 k (mk (txt zs)) (zs.take i) ((items zs).map mk) (((items zs).map mk).length : Int) (i : Int)) (zs, true) := by
  have hl := hf.1.2
  have hit : (items zs).length = zs.length := List.length_map ..
  have hm : ((items zs).map mk).length = zs.length := by rw [List.length_map, hit]
  have stop : Ev (fun k => impl_ParseFamily.l0 k (mk (txt zs)) (zs.take zs.length) ((items zs).map mk) (((items zs).map mk).length : Int) (zs.length : Int)) (zs, true) := by
    rw [List.take_length]
    obtain ⟨v, _, h1, h2⟩ := impl_end (txt zs) zs (by omega) (zs.length : Int) (items zs) (by rw [hm])
    rw [hm, ← h1 hf rfl]
    exact h2
  induction n with
  | zero =>
    intro i h1 h2
    obtain rfl : i = zs.length := by omega
    exact stop
  | succ n ih =>
    intro i h1 h2
    by_cases hi : i < zs.length
    · have hw : wrap64 ((i : Int) + 1) = ((i + 1 : Nat) : Int) := by rw [w64 _ (by omega)]; omega
      have hnext := ih (i + 1) (by omega) (by omega)
      rw [take_snoc zs i hi] at hnext
      have hil : (item zs[i]).length ≤ 24 := item_len zs hf i hi
      have hget : (items zs)[i]'(by rw [hit]; exact hi) = item zs[i] := by unfold items; rw [List.getElem_map]
      have hr := readNumbers (item zs[i]) 46 (by omega)
      rw [item_parts] at hr
      obtain ⟨⟨y1, y2⟩, hc⟩ := kin_cases zs hf i hi
      obtain ⟨o0, n0⟩ := num_ok zs[i].f0 y1 (by omega)
      have htl : (zs.take i).length = i := by rw [List.length_take]; omega
      refine Ev.step (f := fun k => _) (fun k => by rw [impl_ParseFamily.l0]) (ifp (by omega) (ifp (by omega) (ifp (by omega) ?_)))
      rw [rdOf_mk (items zs) i (by omega), hget]
      have h14 : ((zs.take i).length : Int) == 14 ↔ False := by simp; omega
      have b14 : (((zs.take i).length : Int) == 14) = false := by simp; omega
      rcases hc with ⟨e1, e2, e⟩ | ⟨⟨a1, a2⟩, ⟨e2, e⟩ | ⟨⟨b1, b2⟩, e⟩⟩
      · rw [e] at hr
        simp only [List.map_cons, List.map_nil, List.all_cons, List.all_nil, o0, n0, Bool.and_true, if_true] at hr
        refine Ev.bind hr (ifp rfl (ifn (by simp) ?_))
        rw [b14]
        refine Ev.step (f := fun k => _) (fun k => by rw [impl_ParseFamily.j1]) (ifn (by simp) (ifp (by simp) (ifn (by simp) (ifn (by simp) (ifp (by omega) ?_)))))
        rw [hw]
        have ek : (⟨rd [zs[i].f0] 0, -1, -1⟩ : Kn) = zs[i] := by
          generalize zs[i] = k at e1 e2
          obtain ⟨f0, f1, f2⟩ := k
          simp only at e1 e2
          subst e1 e2
          rfl
        rw [ek]
        exact hnext
      · obtain ⟨o1, n1⟩ := num_ok zs[i].f1 a1 (by omega)
        rw [e] at hr
        simp only [List.map_cons, List.map_nil, List.all_cons, List.all_nil, o0, n0, o1, n1, Bool.and_true, if_true] at hr
        refine Ev.bind hr (ifp rfl (ifn (by simp) ?_))
        rw [b14]
        refine Ev.step (f := fun k => _) (fun k => by rw [impl_ParseFamily.j1]) (ifn (by simp) (ifp (by simp) (ifp (by simp) (ifp (by simp) (ifn (by simp) (ifp (by omega) ?_))))))
        rw [hw]
        have ek : (⟨rd [zs[i].f0, zs[i].f1] 0, rd [zs[i].f0, zs[i].f1] 1, -1⟩ : Kn) = zs[i] := by
          generalize zs[i] = k at e2
          obtain ⟨f0, f1, f2⟩ := k
          simp only at e2
          subst e2
          rfl
        rw [ek]
        exact hnext
      · obtain ⟨o1, n1⟩ := num_ok zs[i].f1 a1 (by omega)
        obtain ⟨o2, n2⟩ := num_ok zs[i].f2 b1 (by omega)
        rw [e] at hr
        simp only [List.map_cons, List.map_nil, List.all_cons, List.all_nil, o0, n0, o1, n1, o2, n2, Bool.and_true, if_true] at hr
        refine Ev.bind hr (ifp rfl (ifn (by simp) ?_))
        rw [b14]
        refine Ev.step (f := fun k => _) (fun k => by rw [impl_ParseFamily.j1]) (ifn (by simp) (ifp (by simp) (ifp (by simp) (ifp (by simp) (ifp (by simp) (ifp (by simp) (ifp (by omega) ?_)))))))
        rw [hw]
        have ek : (⟨rd [zs[i].f0, zs[i].f1, zs[i].f2] 0, rd [zs[i].f0, zs[i].f1, zs[i].f2] 1, rd [zs[i].f0, zs[i].f1, zs[i].f2] 2⟩ : Kn) = zs[i] := by
          generalize zs[i] = k
          obtain ⟨f0, f1, f2⟩ := k
          rfl
        rw [ek]
        exact hnext
    · obtain rfl : i = zs.length := by omega
      exact stop
/-! The reference. -/
theorem spec_end (l : List UInt8) (out : List Kn) (hl : out.length ≤ 2000001) (N : Int) (P : List (List UInt8)) (h : N = ((P.map mk).length : Int)) : ∃ v, Shape l v ∧ (Fam out → txt out = l → v = (out, true)) ∧ Ev (fun k => spec_ParseFamily.l0 k (mk l) out (P.map mk) N N) v := by
  subst h
  cases hg : good out with
  | false =>
    refine ⟨([], false), .none l, fun hf => absurd (good_of out hf) (by rw [hg]; simp), ?_⟩
    exact Ev.step (f := fun k => _) (fun k => by rw [spec_ParseFamily.l0]) (ifn (by omega) (Ev.bind (evEq (faGood out (by omega)) hg) (ifn Bool.false_ne_true now)))
  | true =>
    have hf := (good_iff out).1 hg
    have ht := faText out hf
    by_cases he : txt out = l
    · refine ⟨(out, true), .inr ⟨out, rfl, hf, he⟩, fun _ _ => rfl, ?_⟩
      refine Ev.step (f := fun k => _) (fun k => by rw [spec_ParseFamily.l0]) (ifn (by omega) (Ev.bind (evEq (faGood out (by omega)) hg) (ifp rfl (Ev.bind ht (ifp ?_ now)))))
      rw [toList_mk, toList_mk]; exact he
    · refine ⟨([], false), .none l, fun _ e => absurd e he, ?_⟩
      refine Ev.step (f := fun k => _) (fun k => by rw [spec_ParseFamily.l0]) (ifn (by omega) (Ev.bind (evEq (faGood out (by omega)) hg) (ifp rfl (Ev.bind ht (ifn ?_ now)))))
      rw [toList_mk, toList_mk]; exact he
theorem spec_any (l : List UInt8) (P : List (List UInt8)) (hP : ∀ p ∈ P, p.length ≤ 2000000) (hl : P.length ≤ 2000001) (n : Nat) : ∀ (i : Nat) (out : List Kn), i ≤ P.length → P.length - i ≤ n → out.length ≤ i →
    ∃ v, Shape l v ∧ Ev (fun k => spec_ParseFamily.l0 k (mk l) out (P.map mk) ((P.map mk).length : Int) (i : Int)) v := by
  have hm : (P.map mk).length = P.length := List.length_map ..
  have stop : ∀ out : List Kn, out.length ≤ P.length → ∃ v, Shape l v ∧ Ev (fun k => spec_ParseFamily.l0 k (mk l) out (P.map mk) ((P.map mk).length : Int) (P.length : Int)) v := by
    intro out ho
    obtain ⟨v, h1, _, h2⟩ := spec_end l out (by omega) (P.length : Int) P (by rw [hm])
    rw [hm]
    exact ⟨v, h1, h2⟩
  induction n with
  | zero =>
    intro i out h1 h2 h3
    obtain rfl : i = P.length := by omega
    exact stop out h3
  | succ n ih =>
    intro i out h1 h2 h3
    by_cases hi : i < P.length
    · have hw : wrap64 ((i : Int) + 1) = ((i + 1 : Nat) : Int) := by rw [w64 _ (by omega)]; omega
      have hn := fun out' h => ih (i + 1) out' (by omega) (by omega) h
      have hpl := hP _ (List.getElem_mem hi)
      have hq := (parts_le 46 P[i]).1
      have hsp := l1Split P[i] 46 hpl
      have hne : 0 < (parts 46 P[i]).length := by
        rcases Nat.eq_zero_or_pos (parts 46 P[i]).length with h | h
        · exact absurd (List.length_eq_zero_iff.1 h) (parts_ne 46 P[i])
        · exact h
      generalize parts 46 P[i] = qs at hq hsp hne
      have hqm : (qs.map mk).length = qs.length := List.length_map ..
      have rdq : ∀ (j : Nat) (hj : j < qs.length), Ev (fun k => spec_l1Read.f k (rdOf ByteArray.empty (qs.map mk) (j : Int))) (readT qs[j]) := by
        intro j hj
        rw [rdOf_mk qs j hj]
        have := hq qs[j] (List.getElem_mem hj)
        exact l1Read qs[j] (by omega)
      have ho : out.length < 5864062014805 := by omega
      have nx : ∀ x : Kn, ∃ v, Shape l v ∧ Ev (fun k => spec_ParseFamily.l0 k (mk l) (out ++ [x]) (P.map mk) ((P.map mk).length : Int) (wrap64 ((i : Int) + 1))) v := by
        intro x
        rw [hw]
        exact hn _ (by simp; omega)
      have hj : ∀ b f o : Int, ∃ v, Shape l v ∧ Ev (fun k => spec_ParseFamily.j1 k (mk l) out (qs.map mk) (P.map mk) ((P.map mk).length : Int) (i : Int) b f o) v := by
        intro b f o
        by_cases c2 : 2 < qs.length
        · have r2 : Ev (fun k => spec_l1Read.f k (rdOf ByteArray.empty (qs.map mk) 2)) (readT qs[2]) := rdq 2 c2
          by_cases cn : readT qs[2] < 0
          · exact ⟨([], false), .none l, Ev.step (f := fun k => _) (fun k => by rw [spec_ParseFamily.j1]) (ifp (by omega) (ifp (by omega) (Ev.bind r2 (ifp cn now))))⟩
          · obtain ⟨v, hv, e⟩ := nx ⟨b, f, readT qs[2]⟩
            exact ⟨v, hv, Ev.step (f := fun k => _) (fun k => by rw [spec_ParseFamily.j1]) (ifp (by omega) (ifp (by omega) (Ev.bind r2 (ifn cn (ifp ho e)))))⟩
        · obtain ⟨v, hv, e⟩ := nx ⟨b, f, o⟩
          exact ⟨v, hv, Ev.step (f := fun k => _) (fun k => by rw [spec_ParseFamily.j1]) (ifn (by omega) (ifp ho e))⟩
      by_cases c3 : 3 < qs.length
      · refine ⟨([], false), .none l, Ev.step (f := fun k => _) (fun k => by rw [spec_ParseFamily.l0]) (ifp (by omega) (ifp (by omega) (ifp (by omega) ?_)))⟩
        rw [rdOf_mk P i hi]
        exact Ev.bind hsp (ifp (by omega) now)
      · by_cases c1 : 1 < qs.length
        · by_cases cn : readT qs[1] < 0
          · refine ⟨([], false), .none l, Ev.step (f := fun k => _) (fun k => by rw [spec_ParseFamily.l0]) (ifp (by omega) (ifp (by omega) (ifp (by omega) ?_)))⟩
            rw [rdOf_mk P i hi]
            exact Ev.bind hsp (ifn (by omega) (ifp (by omega) (Ev.bind (rdq 0 hne) (ifp (by omega) (ifp (by omega) (Ev.bind (rdq 1 c1) (ifp cn now)))))))
          · obtain ⟨v, hv, e⟩ := hj (readT qs[0]) (readT qs[1]) (-1)
            refine ⟨v, hv, Ev.step (f := fun k => _) (fun k => by rw [spec_ParseFamily.l0]) (ifp (by omega) (ifp (by omega) (ifp (by omega) ?_)))⟩
            rw [rdOf_mk P i hi]
            exact Ev.bind hsp (ifn (by omega) (ifp (by omega) (Ev.bind (rdq 0 hne) (ifp (by omega) (ifp (by omega) (Ev.bind (rdq 1 c1) (ifn cn e)))))))
        · obtain ⟨v, hv, e⟩ := hj (readT qs[0]) (-1) (-1)
          refine ⟨v, hv, Ev.step (f := fun k => _) (fun k => by rw [spec_ParseFamily.l0]) (ifp (by omega) (ifp (by omega) (ifp (by omega) ?_)))⟩
          rw [rdOf_mk P i hi]
          exact Ev.bind hsp (ifn (by omega) (ifp (by omega) (Ev.bind (rdq 0 hne) (ifn (by omega) e))))
    · obtain rfl : i = P.length := by omega
      exact stop out h3
theorem spec_own (zs : List Kn) (hf : Fam zs) (n : Nat) : ∀ i : Nat, i ≤ zs.length → zs.length - i ≤ n →
    Ev (fun k => spec_ParseFamily.l0 k (mk (txt zs)) (zs.take i) ((items zs).map mk) (((items zs).map mk).length : Int) (i : Int)) (zs, true) := by
  have hl := hf.1.2
  have hit : (items zs).length = zs.length := List.length_map ..
  have hm : ((items zs).map mk).length = zs.length := by rw [List.length_map, hit]
  have stop : Ev (fun k => spec_ParseFamily.l0 k (mk (txt zs)) (zs.take zs.length) ((items zs).map mk) (((items zs).map mk).length : Int) (zs.length : Int)) (zs, true) := by
    rw [List.take_length]
    obtain ⟨v, _, h1, h2⟩ := spec_end (txt zs) zs (by omega) (zs.length : Int) (items zs) (by rw [hm])
    rw [hm, ← h1 hf rfl]
    exact h2
  induction n with
  | zero =>
    intro i h1 h2
    obtain rfl : i = zs.length := by omega
    exact stop
  | succ n ih =>
    intro i h1 h2
    by_cases hi : i < zs.length
    · have hw : wrap64 ((i : Int) + 1) = ((i + 1 : Nat) : Int) := by rw [w64 _ (by omega)]; omega
      have hnext := ih (i + 1) (by omega) (by omega)
      rw [take_snoc zs i hi] at hnext
      have hil : (item zs[i]).length ≤ 24 := item_len zs hf i hi
      have hget : (items zs)[i]'(by rw [hit]; exact hi) = item zs[i] := by unfold items; rw [List.getElem_map]
      have hsp := l1Split (item zs[i]) 46 (by omega)
      rw [item_parts] at hsp
      obtain ⟨⟨y1, y2⟩, hc⟩ := kin_cases zs hf i hi
      have htl : (zs.take i).length = i := by rw [List.length_take]; omega
      have rdn : ∀ (L : List Int) (j : Nat) (hj : j < L.length), 0 ≤ L[j] → L[j] < 1000000 → Ev (fun k => spec_l1Read.f k (rdOf ByteArray.empty ((L.map num).map mk) (j : Int))) L[j] := by
        intro L j hj h0 h1
        rw [rdOf_mk (L.map num) j (by rw [List.length_map]; exact hj), List.getElem_map]
        have hn := num_len L[j] (by omega)
        exact evEq (l1Read (num L[j]) (by omega)) (num_read L[j] h0 h1)
      have fin : ∀ x : Kn, x = zs[i] → Ev (fun k => spec_ParseFamily.l0 k (mk (txt zs)) (zs.take i ++ [x]) ((items zs).map mk) (((items zs).map mk).length : Int) (wrap64 ((i : Int) + 1))) (zs, true) := by
        intro x hx
        rw [hx, hw]
        exact hnext
      refine Ev.step (f := fun k => _) (fun k => by rw [spec_ParseFamily.l0]) (ifp (by omega) (ifp (by omega) (ifp (by omega) ?_)))
      rw [rdOf_mk (items zs) i (by omega), hget]
      refine Ev.bind hsp ?_
      rcases hc with ⟨e1, e2, e⟩ | ⟨⟨a1, a2⟩, ⟨e2, e⟩ | ⟨⟨b1, b2⟩, e⟩⟩
      · rw [e]
        have r0 := rdn [zs[i].f0] 0 (by simp) y1 (by show zs[i].f0 < _; omega)
        refine ifn (by simp) (ifp (by simp) (Ev.bind r0 (ifn (by simp) ?_)))
        refine Ev.step (f := fun k => _) (fun k => by rw [spec_ParseFamily.j1]) (ifn (by simp) (ifp (by omega) (fin _ ?_)))
        show (⟨zs[i].f0, -1, -1⟩ : Kn) = zs[i]
        generalize zs[i] = k at e1 e2
        obtain ⟨f0, f1, f2⟩ := k
        simp only at e1 e2
        subst e1 e2
        rfl
      · rw [e]
        have r0 := rdn [zs[i].f0, zs[i].f1] 0 (by simp) y1 (by show zs[i].f0 < _; omega)
        have r1 := rdn [zs[i].f0, zs[i].f1] 1 (by simp) a1 (by show zs[i].f1 < _; omega)
        refine ifn (by simp) (ifp (by simp) (Ev.bind r0 (ifp (by simp) (ifp (by simp) (Ev.bind r1 (ifn (by show ¬ zs[i].f1 < 0; omega) ?_))))))
        refine Ev.step (f := fun k => _) (fun k => by rw [spec_ParseFamily.j1]) (ifn (by simp) (ifp (by omega) (fin _ ?_)))
        show (⟨zs[i].f0, zs[i].f1, -1⟩ : Kn) = zs[i]
        generalize zs[i] = k at e2
        obtain ⟨f0, f1, f2⟩ := k
        simp only at e2
        subst e2
        rfl
      · rw [e]
        have r0 := rdn [zs[i].f0, zs[i].f1, zs[i].f2] 0 (by simp) y1 (by show zs[i].f0 < _; omega)
        have r1 := rdn [zs[i].f0, zs[i].f1, zs[i].f2] 1 (by simp) a1 (by show zs[i].f1 < _; omega)
        have h58 : (zs.take i).length < 5864062014805 := by omega
        have r2 : Ev (fun k => spec_l1Read.f k (rdOf ByteArray.empty (([zs[i].f0, zs[i].f1, zs[i].f2].map num).map mk) 2)) zs[i].f2 := rdn [zs[i].f0, zs[i].f1, zs[i].f2] 2 (by simp) b1 (by show zs[i].f2 < _; omega)
        refine ifn (by simp) (ifp (by simp) (Ev.bind r0 (ifp (by simp) (ifp (by simp) (Ev.bind r1 (ifn (by show ¬ zs[i].f1 < 0; omega) ?_))))))
        refine Ev.step (f := fun k => _) (fun k => by rw [spec_ParseFamily.j1]) (ifp (by simp) (ifp (by simp) (Ev.bind r2 (ifn (by show ¬ zs[i].f2 < 0; omega) (ifp h58 (fin _ ?_))))))
        show (⟨zs[i].f0, zs[i].f1, zs[i].f2⟩ : Kn) = zs[i]
        generalize zs[i] = k
        obtain ⟨f0, f1, f2⟩ := k
        rfl
    · obtain rfl : i = zs.length := by omega
      exact stop
theorem ParseFamily_both (l : List UInt8) (hl : l.length ≤ 1048576) : ∃ v : Res, v.1.length ≤ 1048576 ∧ Ev (fun k => spec_ParseFamily.f k (mk l)) v ∧ Ev (fun k => impl_ParseFamily.f k (mk l)) v := by
  unfold spec_ParseFamily.f impl_ParseFamily.f
  rw [mk_size]
  by_cases h : ∃ zs, Fam zs ∧ txt zs = l
  · obtain ⟨zs, hf, rfl⟩ := h
    have h154 := txt_len zs hf
    have hne : zs ≠ [] := by intro e; have := hf.1.1; rw [e] at this; simp at this
    have e1 := spec_own zs hf _ 0 (Nat.zero_le _) (Nat.le_refl _)
    have e2 := impl_own zs hf _ 0 (Nat.zero_le _) (Nat.le_refl _)
    have hs := l1Split (txt zs) 59 (by omega)
    have hi := split (txt zs) 59 (by omega)
    rw [txt_parts zs hne] at hs hi
    refine ⟨(zs, true), by have := hf.1.2; show zs.length ≤ _; omega, ?_, ?_⟩
    · exact ifn (by omega) (Ev.bind hs e1)
    · exact call hi e2
  · obtain ⟨p1, p2⟩ := parts_le 59 l
    have hP : ∀ p ∈ parts 59 l, p.length ≤ 2000000 := fun p hp => Nat.le_trans (p1 p hp) (by omega)
    obtain ⟨vi, si, ei⟩ := impl_any l (parts 59 l) hP (by omega) _ 0 [] (Nat.zero_le _) (Nat.le_refl _) (Nat.le_refl _)
    obtain ⟨vs, ss, es⟩ := spec_any l (parts 59 l) hP (by omega) _ 0 [] (Nat.zero_le _) (Nat.le_refl _) (Nat.le_refl _)
    have ni : vi = ([], false) := by
      rcases si with e | ⟨zs, _, hf, ht⟩
      · exact e
      · exact absurd ⟨zs, hf, ht⟩ h
    have ns : vs = ([], false) := by
      rcases ss with e | ⟨zs, _, hf, ht⟩
      · exact e
      · exact absurd ⟨zs, hf, ht⟩ h
    rw [ni] at ei
    rw [ns] at es
    refine ⟨([], false), by simp, ?_, ?_⟩
    · by_cases h154 : 154 < l.length
      · exact ifp (by omega) now
      · exact ifn (by omega) (Ev.bind (l1Split l 59 (by omega)) es)
    · exact call (split l 59 (by omega)) ei
theorem FnExactParseFamily : laws_FnExactParseFamily.Pure := by
  intro a _
  obtain ⟨l, rfl⟩ : ∃ l, a = mk l := ⟨a.data.toList, (mk_of a).symm⟩
  refine Ev.rounds ?_
  unfold laws_FnExactParseFamily.f
  rw [mk_size]
  by_cases hs : l.length ≤ 1048576
  · refine ifn (by omega) ?_
    obtain ⟨v, hv, e1, e2⟩ := ParseFamily_both l hs
    refine Ev.bind e1 (Ev.bind e2 (Ev.bind (eqKinS v.1 (by omega)) (ifp rfl ?_)))
    refine Ev.step (f := fun k => _) (fun k => by rw [laws_FnExactParseFamily.j0]) (ifn (by simp) ?_)
    refine Ev.bind (markKinS v.1 (by omega) 1 (by decide)) (Ev.bind (heldKinS v.1.length (by omega) 1 (by decide)) (ifn (by omega) (ifp rfl ?_)))
    refine Ev.bind e2 (Ev.bind (eqKinS v.1 (by omega)) (ifp rfl ?_))
    refine Ev.step (f := fun k => _) (fun k => by rw [laws_FnExactParseFamily.j1]) (ifn (by simp) ?_)
    exact Ev.bind (heldKinS v.1.length (by omega) 1 (by decide)) (ifn (by omega) (ifp rfl now))
  · exact ifp (by omega) now
end Go.Proofs.YtllihaahppelhaaDoor.Pure
