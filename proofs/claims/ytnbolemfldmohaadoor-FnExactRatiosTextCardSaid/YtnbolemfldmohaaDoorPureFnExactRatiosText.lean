/- The program's RatiosText tells what the reference's tells, for all lists of ratios. No condition. -/
import Derived.Test.YtnbolemfldmohaaDoorPx10
import Derived.Test.YtnbolemfldmohaaDoorPx1
import Derived.Test.YtnbolemfldmohaaDoorPx9
import Derived.Test.YtnbolemfldmohaaDoorPxHstrconvqItoa
import Derived.Test.YtnbolemfldmohaaDoorPx7
import Derived.Test.YtnbolemfldmohaaDoorPxHstringsqJoin
import Derived.Test.YtnbolemfldmohaaDoorEv
import Derived.Lib.Join
import Derived.Lib.ItoaNum
import Derived.Test.YtnbolemfldmohaaDoorPxHimplqareRatios
import Derived.Test.YtnbolemfldmohaaDoorPx0
import Derived.Test.YtnbolemfldmohaaDoorPx4
namespace Go.Proofs.YtnbolemfldmohaaDoor.Tx
open Go.RowKit Go.Proofs.YtnbolemfldmohaaDoor.P Go.Proofs.YtnbolemfldmohaaDoorW.PrintWords Go.Proofs.YtnbolemfldmohaaDoor.E
/-- A text of these bytes. -/
def mk (l : List UInt8) : ByteArray := ⟨l.toArray⟩
theorem mk_app (a b : List UInt8) : mk a ++ mk b = mk (a ++ b) := by
  apply ByteArray.ext
  rw [ByteArray.data_append]
  simp [mk]
theorem mk_size (l : List UInt8) : (mk l).size = l.length := by simp [mk, ByteArray.size]
theorem mk_list (l : List UInt8) : (mk l).data.toList = l := by simp [mk]
theorem mk_of (b : ByteArray) : mk b.data.toList = b := by
  obtain ⟨⟨l⟩⟩ := b
  rfl
theorem digits_len (k : Nat) : ∀ u : Nat, u < 10 ^ (k + 1) → (Lib.decDigits u).length ≤ k + 1 := by
  induction k with
  | zero =>
    intro u h
    have h10 : u < 10 := by simpa using h
    rw [Lib.decDigits, dif_pos h10]
    simp
  | succ k ih =>
    intro u h
    rw [Lib.decDigits]
    by_cases h10 : u < 10
    · rw [dif_pos h10]; simp
    · rw [dif_neg h10]
      have h1 : u / 10 < 10 ^ (k + 1) := by
        rw [Nat.pow_succ] at h
        omega
      have := ih (u / 10) h1
      simp; omega
/-- A number's text. -/
def num (n : Int) : List UInt8 := Lib.decDigits n.toNat
theorem num_len (n : Int) (h : n ≤ 1000000) : (num n).length ≤ 7 := digits_len 6 n.toNat (by omega)
theorem num_pos (n : Int) : 0 < (num n).length := by
  unfold num
  rw [Lib.decDigits]
  split <;> simp
theorem itoa (n : Int) (h0 : 0 ≤ n) (h1 : n ≤ 1000000) : strconv_Itoa.f n = some (mk (num n)) := by
  unfold strconv_Itoa.f
  rw [if_pos ⟨h0, h1⟩]
  unfold Lib.itoa
  rw [if_neg (by omega)]
  rfl
theorem textOf (n : Int) (h0 : 0 ≤ n) (h1 : n ≤ 1000000) : impl_textOf.f n = some (mk (num n)) := by
  unfold impl_textOf.f
  rw [itoa n h0 h1]
  rfl
theorem dig (n : Int) (h0 : 0 ≤ n) (h1 : n < 10) : strOfNums [(wrap64 (48 + n)) % 256] = mk [UInt8.ofNat (48 + n.toNat)] := by
  rw [w64 _ (by omega)]
  unfold strOfNums mk
  have e : (48 + n) % 256 = 48 + n := by omega
  rw [e]
  simp only [List.map_cons, List.map_nil]
  rw [show (48 + n).toNat = 48 + n.toNat by omega]
theorem l1Num (m : Nat) : ∀ n : Int, 0 ≤ n → n ≤ 1000000 → n.toNat ≤ m → Ev (fun k => spec_l1Num.f k n) (mk (num n)) := by
  induction m with
  | zero =>
    intro n h0 _ hm
    have hn : n.toNat < 10 := by omega
    refine Ev.step (f := fun k => _) (fun k => by rw [spec_l1Num.f]) (ifp (by omega) ?_)
    rw [dig n h0 (by omega)]
    unfold num
    rw [Lib.decDigits, dif_pos hn]
    exact now
  | succ m ih =>
    intro n h0 h1 hm
    by_cases h : n < 10
    · have hn : n.toNat < 10 := by omega
      refine Ev.step (f := fun k => _) (fun k => by rw [spec_l1Num.f]) (ifp h ?_)
      rw [dig n h0 h]
      unfold num
      rw [Lib.decDigits, dif_pos hn]
      exact now
    · have hd : n.tdiv 10 = n / 10 := Int.tdiv_eq_ediv_of_nonneg h0
      have hmd : n.tmod 10 = n % 10 := Int.tmod_eq_emod_of_nonneg h0
      refine Ev.step (f := fun k => _) (fun k => by rw [spec_l1Num.f]) (ifn h ?_)
      rw [hd, hmd, w64 (n / 10) (by omega)]
      refine Ev.bind (ih (n / 10) (by omega) (by omega) (by omega)) ?_
      have hl := num_len (n / 10) (by omega)
      simp only [Option.bind_some]
      rw [dig (n % 10) (by omega) (by omega)]
      refine ifp (by rw [mk_size, mk_size]; simp; omega) ?_
      rw [mk_app]
      have e : num n = num (n / 10) ++ [UInt8.ofNat (48 + (n % 10).toNat)] := by
        unfold num
        rw [Lib.decDigits, dif_neg (by omega), show (n / 10).toNat = n.toNat / 10 by omega, show (n % 10).toNat = n.toNat % 10 by omega]
      rw [e]
      exact now
theorem join_snoc (xs : List (List UInt8)) (y sep : List UInt8) (h : xs ≠ []) : Lib.join (xs ++ [y]) sep = Lib.join xs sep ++ sep ++ y := by
  obtain ⟨x, r, rfl⟩ := List.exists_cons_of_ne_nil h
  rw [List.cons_append, Lib.join_cons, Lib.join_cons]
  simp [Lib.joinTail, List.append_assoc]
theorem join_len (m : Nat) (sep : List UInt8) (hs : sep.length = 1) : ∀ xs : List (List UInt8), (∀ x ∈ xs, x.length ≤ m) → (Lib.join xs sep).length ≤ xs.length * (m + 1) := by
  intro xs
  cases xs with
  | nil => intro _; simp [Lib.join_nil]
  | cons x r =>
    intro h
    rw [Lib.join_cons, List.length_append]
    have hx := h x (List.mem_cons_self ..)
    have hr : ∀ r : List (List UInt8), (∀ x ∈ r, x.length ≤ m) → (Lib.joinTail sep r).length ≤ r.length * (m + 1) := by
      intro r
      induction r with
      | nil => intro _; simp [Lib.joinTail]
      | cons y r ih =>
        intro h
        have hy := h y (List.mem_cons_self ..)
        have := ih fun z hz => h z (List.mem_cons_of_mem _ hz)
        simp only [Lib.joinTail, List.map_cons, List.flatten_cons, List.length_append, List.length_cons] at this ⊢
        rw [Nat.add_mul, Nat.one_mul]
        omega
    have := hr r fun z hz => h z (List.mem_cons_of_mem _ hz)
    rw [List.length_cons, Nat.add_mul, Nat.one_mul]
    omega
theorem join (xs : List (List UInt8)) (c : UInt8) (h1 : xs.length ≤ 1000) (m : Nat) (hm : m ≤ 900) (h2 : ∀ x ∈ xs, x.length ≤ m) : strings_Join.f (xs.map mk) ⟨#[c]⟩ = some (mk (Lib.join xs [c])) := by
  unfold strings_Join.f
  have e : (xs.map mk).map (fun x : ByteArray => x.data.toList) = xs := by
    rw [List.map_map]
    have : ((fun x : ByteArray => x.data.toList) ∘ mk) = id := by funext l; exact mk_list l
    rw [this, List.map_id]
  rw [e]
  have hl := join_len m [c] rfl xs h2
  have hq : xs.length * (m + 1) ≤ 1000 * 901 := Nat.mul_le_mul h1 (by omega)
  rw [if_pos ⟨by rw [List.length_map]; exact h1, by show (Lib.join xs [c]).length ≤ 1000000; omega⟩]
  rfl
end Go.Proofs.YtnbolemfldmohaaDoor.Tx
namespace Go.Proofs.YtnbolemfldmohaaDoor.Pr
open Go.RowKit Go.Proofs.YtnbolemfldmohaaDoor.P Go.Proofs.YtnbolemfldmohaaDoorW.PrintWords Go.Proofs.YtnbolemfldmohaaDoor.E
abbrev Rt := S37
abbrev LR := S39
abbrev rdR (l : List Rt) (i : Int) : Rt := rd_T37 l i
theorem rdR_get (l : List Rt) (i : Nat) (h : i < l.length) : rd_T37 l (i : Int) = l[i] := by simp [rd_T37, List.getD_eq_getElem?_getD, List.getElem?_eq_getElem h]
theorem rdL_get (l : List LR) (i : Nat) (h : i < l.length) : rd_T39 l (i : Int) = l[i] := by simp [rd_T39, List.getD_eq_getElem?_getD, List.getElem?_eq_getElem h]
def conv1 (x : LR) : Rt := ⟨x.f0, x.f1⟩
def conv (l : List LR) : List Rt := l.map conv1
theorem conv_length (l : List LR) : (conv l).length = l.length := by simp [conv]
theorem szRatioS (l : List LR) (h : l.length ≤ 140737488351232) : laws_szRatioS.f l 1048576 = some (if l.length ≤ 1048576 then 1048576 - (l.length : Int) else -1) := by
  unfold laws_szRatioS.f
  rw [w64 _ (by omega)]
  by_cases h1 : l.length ≤ 1048576
  · rw [if_neg (by omega), if_pos h1]
  · rw [if_pos (by omega), if_neg h1]
theorem toRatioS_l (l : List LR) (hl : l.length ≤ 1099511627776) (n : Nat) : ∀ i : Nat, i ≤ l.length → l.length - i ≤ n →
    Ev (fun k => laws_toRatioS.l0 k l (conv (l.take i) ++ List.replicate (l.length - i) z37) (i : Int)) (conv l) := by
  have stop : Ev (fun k => laws_toRatioS.l0 k l (conv (l.take l.length) ++ List.replicate (l.length - l.length) z37) (l.length : Int)) (conv l) := by
    refine Ev.step (f := fun k => _) (fun k => by rw [laws_toRatioS.l0]) (ifn (by omega) (evEq now ?_))
    simp
  induction n with
  | zero =>
    intro i h1 h2
    obtain rfl : i = l.length := by omega
    exact stop
  | succ n ih =>
    intro i h1 h2
    by_cases hi : i < l.length
    · have hlen : (conv (l.take i) ++ List.replicate (l.length - i) z37).length = l.length := by simp [conv]; omega
      have hset : (conv (l.take i) ++ List.replicate (l.length - i) z37).set i (conv1 l[i]) = conv (l.take (i + 1)) ++ List.replicate (l.length - (i + 1)) z37 := by
        have hc : (conv (l.take i)).length = i := by simp [conv]; omega
        rw [List.set_append_right _ _ (by omega), hc, Nat.sub_self, show l.length - i = (l.length - (i + 1)) + 1 by omega, List.replicate_succ, List.set_cons_zero, List.take_succ_eq_append_getElem hi]
        simp only [conv, List.map_append, List.map_cons, List.map_nil, List.append_assoc, List.cons_append, List.nil_append]
      refine Ev.step (f := fun k => _) (fun k => by rw [laws_toRatioS.l0]) (ifp (by omega) (ifp (by omega) ?_))
      refine call (b := (l[i].f0, l[i].f1)) (by rw [rdL_get l i hi]; rfl) ?_
      refine ifp (by omega) ?_
      rw [w64 _ (by omega), Int.toNat_natCast]
      have := ih (i + 1) (by omega) (by omega)
      rw [← hset] at this
      exact this
    · obtain rfl : i = l.length := by omega
      exact stop
theorem toRatioS (l : List LR) (hl : l.length ≤ 1099511627776) : Ev (fun k => laws_toRatioS.f k l) (conv l) := by
  unfold laws_toRatioS.f
  refine ifp (by omega) (ifp (by omega) ?_)
  have := toRatioS_l l hl _ 0 (by omega) (Nat.le_refl _)
  simpa [conv] using this
theorem eqRatio (a b : Int) : laws_eqRatio.f a b a b = some true := by simp [laws_eqRatio.f]
theorem eqRatioS_l (l : List Rt) (hl : l.length ≤ 1099511627776) (n : Nat) : ∀ i : Nat, i ≤ l.length → l.length - i ≤ n → Ev (fun k => laws_eqRatioS.l0 k l l (i : Int)) true := by
  induction n with
  | zero =>
    intro i h1 h2
    exact Ev.step (f := fun k => _) (fun k => by rw [laws_eqRatioS.l0]) (ifn (by omega) now)
  | succ n ih =>
    intro i h1 h2
    by_cases hi : i < l.length
    · refine Ev.step (f := fun k => _) (fun k => by rw [laws_eqRatioS.l0]) (ifp (by omega) (ifp (by omega) (ifp (by omega) (call (eqRatio _ _) (ifp rfl ?_)))))
      rw [w64 _ (by omega)]
      exact ih (i + 1) (by omega) (by omega)
    · exact Ev.step (f := fun k => _) (fun k => by rw [laws_eqRatioS.l0]) (ifn (by omega) now)
theorem eqRatioS (l : List Rt) (hl : l.length ≤ 1099511627776) : Ev (fun k => laws_eqRatioS.f k l l) true := by
  unfold laws_eqRatioS.f
  exact ifp rfl (eqRatioS_l l hl _ 0 (by omega) (Nat.le_refl _))
end Go.Proofs.YtnbolemfldmohaaDoor.Pr
namespace Go.Proofs.YtnbolemfldmohaaDoor.Pr
open Go.RowKit Go.Proofs.YtnbolemfldmohaaDoor.P Go.Proofs.YtnbolemfldmohaaDoorW.PrintWords
theorem l1In (a lo hi : Int) : spec_l1In.f a lo hi = some (decide (lo ≤ a ∧ a ≤ hi)) := by
  unfold spec_l1In.f
  by_cases h : a ≥ lo
  · rw [if_pos h]; congr 1; simp; omega
  · rw [if_neg h]; congr 1; simp; omega
theorem between (a lo hi : Int) : impl_between.f a lo hi = some (decide (lo ≤ a ∧ a ≤ hi)) := l1In a lo hi
def good (a b : Int) : Bool := decide ((1 ≤ a ∧ a ≤ 100) ∧ 1 ≤ b ∧ b ≤ 100)
theorem isRatio (a b : Int) : impl_IsRatio.f a b = some (good a b) := by
  unfold impl_IsRatio.f good
  simp only [between, Option.bind_some]
  by_cases h : 1 ≤ a ∧ a ≤ 100 <;> simp [h]
theorem raGood (a b : Int) : spec_raGood.f a b = some (good a b) := isRatio a b
theorem toRatio (a b : Int) : laws_toRatio.f a b = some (a, b) := rfl
theorem good_iff (a b : Int) : good a b = true ↔ 1 ≤ a ∧ a ≤ 100 ∧ 1 ≤ b ∧ b ≤ 100 := by unfold good; simp; omega
end Go.Proofs.YtnbolemfldmohaaDoor.Pr
namespace Go.Proofs.YtnbolemfldmohaaDoor.Pr
open Go.RowKit Go.Proofs.YtnbolemfldmohaaDoor.P Go.Proofs.YtnbolemfldmohaaDoorW.PrintWords Go.Proofs.YtnbolemfldmohaaDoor.E
theorem one_iff (x : Rt) : impl_areRatios.one x = true ↔ 1 ≤ x.f0 ∧ x.f0 ≤ 100 ∧ 1 ≤ x.f1 ∧ x.f1 ≤ 100 := by unfold impl_areRatios.one; simp; omega
theorem one_good (x : Rt) : impl_areRatios.one x = good x.f0 x.f1 := by rw [Bool.eq_iff_iff, one_iff, good_iff]
/-- Is it a chain of ratios? -/
def chain (l : List Rt) : Bool := decide (1 ≤ l.length ∧ l.length ≤ 6) && l.all impl_areRatios.one
theorem chain_iff (l : List Rt) : chain l = true ↔ (1 ≤ l.length ∧ l.length ≤ 6) ∧ ∀ x ∈ l, 1 ≤ x.f0 ∧ x.f0 ≤ 100 ∧ 1 ≤ x.f1 ∧ x.f1 ≤ 100 := by
  unfold chain
  rw [Bool.and_eq_true, decide_eq_true_iff, List.all_eq_true]
  simp only [one_iff]
theorem areRatios (l : List Rt) : impl_areRatios.f l = some (chain l) := rfl
theorem raChain_l (l : List Rt) (hl : l.length ≤ 1073741824) (n : Nat) : ∀ i : Nat, i ≤ l.length → l.length - i ≤ n → Ev (fun k => spec_raChain.l0 k l (l.length : Int) (i : Int)) ((l.drop i).all impl_areRatios.one) := by
  have stop : Ev (fun k => spec_raChain.l0 k l (l.length : Int) (l.length : Int)) ((l.drop l.length).all impl_areRatios.one) := by
    refine Ev.step (f := fun k => _) (fun k => by rw [spec_raChain.l0]) (ifn (by omega) (evEq now ?_))
    simp
  induction n with
  | zero =>
    intro i h1 h2
    obtain rfl : i = l.length := by omega
    exact stop
  | succ n ih =>
    intro i h1 h2
    by_cases hi : i < l.length
    · refine Ev.step (f := fun k => _) (fun k => by rw [spec_raChain.l0]) (ifp (by omega) (ifp (by omega) (ifp (by omega) ?_)))
      rw [rdR_get l i hi, w64 _ (by omega), List.drop_eq_getElem_cons hi, List.all_cons, one_good]
      refine call (raGood _ _) ?_
      cases h : good l[i].f0 l[i].f1 with
      | true => exact ifp rfl (evEq (ih (i + 1) (by omega) (by omega)) (by simp))
      | false => exact ifn (by simp) (evEq now (by simp))
    · obtain rfl : i = l.length := by omega
      exact stop
theorem raChain (l : List Rt) (hl : l.length ≤ 1073741824) : Ev (fun k => spec_raChain.f k l) (chain l) := by
  unfold spec_raChain.f chain
  refine call (l1In _ _ _) ?_
  by_cases h : 1 ≤ l.length ∧ l.length ≤ 6
  · refine ifp (by simp; omega) (evEq (raChain_l l hl _ 0 (by omega) (Nat.le_refl _)) ?_)
    rw [decide_eq_true h]; simp
  · refine ifn (by simp; omega) (evEq now ?_)
    rw [decide_eq_false h]; simp
end Go.Proofs.YtnbolemfldmohaaDoor.Pr
namespace Go.Proofs.YtnbolemfldmohaaDoor.Pure
open Go.RowKit Go.Proofs.YtnbolemfldmohaaDoor.P Go.Proofs.YtnbolemfldmohaaDoor.Pr Go.Proofs.YtnbolemfldmohaaDoor.E Go.Proofs.YtnbolemfldmohaaDoorW.PrintWords Go.Proofs.YtnbolemfldmohaaDoor.Tx
/-- A ratio's text. -/
def item (x : Rt) : List UInt8 := num x.f0 ++ [58] ++ num x.f1
def items (l : List Rt) : List (List UInt8) := l.map item
def Good (l : List Rt) : Prop := (1 ≤ l.length ∧ l.length ≤ 6) ∧ ∀ x ∈ l, 1 ≤ x.f0 ∧ x.f0 ≤ 100 ∧ 1 ≤ x.f1 ∧ x.f1 ≤ 100
theorem item_len (x : Rt) (h0 : x.f0 ≤ 1000000) (h1 : x.f1 ≤ 1000000) : (item x).length ≤ 15 := by
  have := num_len x.f0 h0
  have := num_len x.f1 h1
  simp [item]; omega
theorem items_len (l : List Rt) (hg : Good l) : ∀ x ∈ items l, x.length ≤ 15 := by
  intro x hx
  obtain ⟨y, hy, rfl⟩ := List.mem_map.1 hx
  have := hg.2 y hy
  exact item_len y (by omega) (by omega)
theorem items_take (l : List Rt) (i : Nat) (h : i < l.length) : items (l.take (i + 1)) = items (l.take i) ++ [item l[i]] := by
  unfold items
  rw [List.take_add_one, List.getElem?_eq_getElem h, List.map_append]
  rfl
theorem join_bd (l : List Rt) (hg : Good l) (i : Nat) : (Lib.join (items (l.take i)) [44]).length ≤ 96 := by
  have h1 := join_len 15 [44] rfl (items (l.take i)) (fun x hx => items_len l hg x (by
    obtain ⟨y, hy, rfl⟩ := List.mem_map.1 hx
    exact List.mem_map.2 ⟨y, List.mem_of_mem_take hy, rfl⟩))
  have h2 : (items (l.take i)).length ≤ 6 := by unfold items; rw [List.length_map, List.length_take]; have := hg.1.2; omega
  omega
theorem lit44 : (⟨#[44]⟩ : ByteArray) = mk [44] := rfl
theorem lit58 : (⟨#[58]⟩ : ByteArray) = mk [58] := rfl
theorem raText_l (l : List Rt) (hg : Good l) (n : Nat) : ∀ i : Nat, i ≤ l.length → l.length - i ≤ n →
    Ev (fun k => spec_raText.l0 k (mk (Lib.join (items (l.take i)) [44])) l (l.length : Int) (i : Int)) (mk (Lib.join (items l) [44])) := by
  have hl := hg.1.2
  have stop : Ev (fun k => spec_raText.l0 k (mk (Lib.join (items (l.take l.length)) [44])) l (l.length : Int) (l.length : Int)) (mk (Lib.join (items l) [44])) := by
    refine Ev.step (f := fun k => _) (fun k => by rw [spec_raText.l0]) (ifn (by omega) ?_)
    rw [List.take_length]; exact now
  induction n with
  | zero =>
    intro i h1 h2
    obtain rfl : i = l.length := by omega
    exact stop
  | succ n ih =>
    intro i h1 h2
    by_cases hi : i < l.length
    · have hx := hg.2 l[i] (List.getElem_mem hi)
      have hn0 := num_len l[i].f0 (by omega)
      have hn1 := num_len l[i].f1 (by omega)
      have hjb := join_bd l hg i
      have e0 := l1Num _ l[i].f0 (by omega) (by omega) (Nat.le_refl _)
      have e1 := l1Num _ l[i].f1 (by omega) (by omega) (Nat.le_refl _)
      have hnext := ih (i + 1) (by omega) (by omega)
      have hw : wrap64 ((i : Int) + 1) = ((i + 1 : Nat) : Int) := by rw [w64 _ (by omega)]; omega
      rw [items_take l i hi] at hnext
      refine Ev.step (f := fun k => _) (fun k => by rw [spec_raText.l0]) (ifp (by omega) (ifp (by omega) (ifp (by omega) ?_)))
      rw [rdR_get l i hi, lit44, lit58]
      by_cases h0 : i = 0
      · subst h0
        refine ifn (by omega) (Ev.bind e0 ?_)
        refine ifp (by rw [mk_size]; omega) (Ev.bind e1 ?_)
        rw [mk_app, mk_app]
        refine ifp (by rw [mk_size, mk_size]; simp; omega) ?_
        refine ifp (by rw [mk_size, mk_size]; simp [Lib.join_nil, items]; omega) ?_
        rw [mk_app, hw]
        have e : Lib.join (items (l.take 0)) [44] ++ (num l[0].f0 ++ ([58] : List UInt8) ++ num l[0].f1) = Lib.join (items (l.take 0) ++ [item l[0]]) [44] := by
          rw [List.take_zero]
          show Lib.join [] [44] ++ _ = Lib.join ([] ++ [item l[0]]) [44]
          rw [List.nil_append, Lib.join_one, Lib.join_nil, List.nil_append]
          rfl
        rw [e]
        exact hnext
      · refine ifp (by omega) (ifp (by rw [mk_size]; omega) (Ev.bind e0 ?_))
        refine ifp (by rw [mk_size]; omega) (Ev.bind e1 ?_)
        rw [mk_app, mk_app, mk_app]
        refine ifp (by rw [mk_size, mk_size]; simp; omega) ?_
        refine ifp (by rw [mk_size, mk_size]; simp; omega) ?_
        rw [mk_app, hw]
        have hne : items (l.take i) ≠ [] := by
          intro e
          have := congrArg List.length e
          unfold items at this
          rw [List.length_map, List.length_take, List.length_nil] at this
          omega
        rw [join_snoc _ _ _ hne] at hnext
        exact hnext
    · obtain rfl : i = l.length := by omega
      exact stop
theorem raText (l : List Rt) (hg : Good l) : Ev (fun k => spec_raText.f k l) (mk (Lib.join (items l) [44])) := by
  have := raText_l l hg _ 0 (Nat.zero_le _) (Nat.le_refl _)
  exact this
theorem ratiosText_l (l : List Rt) (hg : Good l) (n : Nat) : ∀ i : Nat, i ≤ l.length → l.length - i ≤ n →
    Ev (fun k => impl_ratiosText.l0 k ((items (l.take i)).map mk) l (l.length : Int) (i : Int)) (mk (Lib.join (items l) [44])) := by
  have hl := hg.1.2
  have stop : Ev (fun k => impl_ratiosText.l0 k ((items (l.take l.length)).map mk) l (l.length : Int) (l.length : Int)) (mk (Lib.join (items l) [44])) := by
    refine Ev.step (f := fun k => _) (fun k => by rw [impl_ratiosText.l0]) (ifn (by omega) ?_)
    rw [List.take_length]
    refine call (join (items l) 44 (by unfold items; rw [List.length_map]; omega) 15 (by decide) (items_len l hg)) ?_
    exact now
  induction n with
  | zero =>
    intro i h1 h2
    obtain rfl : i = l.length := by omega
    exact stop
  | succ n ih =>
    intro i h1 h2
    by_cases hi : i < l.length
    · have hx := hg.2 l[i] (List.getElem_mem hi)
      have hn0 := num_len l[i].f0 (by omega)
      have hn1 := num_len l[i].f1 (by omega)
      have hnext := ih (i + 1) (by omega) (by omega)
      have hw : wrap64 ((i : Int) + 1) = ((i + 1 : Nat) : Int) := by rw [w64 _ (by omega)]; omega
      rw [items_take l i hi, List.map_append] at hnext
      refine Ev.step (f := fun k => _) (fun k => by rw [impl_ratiosText.l0]) (ifp (by omega) (ifp (by omega) (ifp (by omega) ?_)))
      rw [rdR_get l i hi, lit58]
      refine call (textOf l[i].f0 (by omega) (by omega)) (ifp (by rw [mk_size]; omega) (call (textOf l[i].f1 (by omega) (by omega)) ?_))
      rw [mk_app, mk_app]
      refine ifp (by rw [mk_size, mk_size]; simp; omega) (ifp (by unfold items; rw [List.length_map, List.length_map, List.length_take]; omega) ?_)
      rw [hw]
      exact hnext
    · obtain rfl : i = l.length := by omega
      exact stop
theorem ratiosText (l : List Rt) (hg : Good l) : Ev (fun k => impl_ratiosText.f k l) (mk (Lib.join (items l) [44])) := by
  have := ratiosText_l l hg _ 0 (Nat.zero_le _) (Nat.le_refl _)
  exact this
theorem RatiosText_both (l : List Rt) (hl : l.length ≤ 1048576) : ∃ v : ByteArray × Bool, Ev (fun k => spec_RatiosText.f k l) v ∧ Ev (fun k => impl_RatiosText.f k l) v := by
  unfold spec_RatiosText.f impl_RatiosText.f
  cases hc : chain l with
  | false => exact ⟨(⟨#[]⟩, false), Ev.bind (evEq (raChain l (by omega)) hc) (ifn (by simp) now), call ((areRatios l).trans (by rw [hc])) (ifn (by simp) now)⟩
  | true =>
    have hg : Good l := (chain_iff l).1 hc
    exact ⟨(mk (Lib.join (items l) [44]), true), Ev.bind (evEq (raChain l (by omega)) hc) (ifp rfl (Ev.bind (raText l hg) now)), call ((areRatios l).trans (by rw [hc])) (ifp rfl (Ev.bind (ratiosText l hg) now))⟩
theorem FnExactRatiosText : laws_FnExactRatiosText.Pure := by
  intro l hl hb _
  refine Ev.rounds ?_
  unfold laws_FnExactRatiosText.f
  refine call (szRatioS l (by omega)) ?_
  by_cases hs : l.length ≤ 1048576
  · have hl' : l.length ≤ 1099511627776 := by omega
    have hcl : (conv l).length ≤ 1048576 := by rw [conv_length]; exact hs
    have hc' : (conv l).length ≤ 1099511627776 := by omega
    rw [if_pos hs]
    refine ifn (by omega) ?_
    obtain ⟨v, e1, e2⟩ := RatiosText_both (conv l) hcl
    refine Ev.bind (toRatioS l hl') (Ev.bind e1 (Ev.bind (toRatioS l hl') (Ev.bind e2 (ifp rfl ?_))))
    refine Ev.step (f := fun k => _) (fun k => by rw [laws_FnExactRatiosText.j0]) (ifn (by simp) ?_)
    exact Ev.bind (toRatioS l hl') (Ev.bind (eqRatioS (conv l) hc') (ifp rfl now))
  · rw [if_neg hs]
    exact ifp (by omega) now
end Go.Proofs.YtnbolemfldmohaaDoor.Pure
