/- The program's FamilyText tells what the reference's tells, for all families. No condition. -/
import Derived.Test.YtllihaahppelhaaDoorPx11
import Derived.Test.YtllihaahppelhaaDoorPx2
import Derived.Test.YtllihaahppelhaaDoorPx10
import Derived.Test.YtllihaahppelhaaDoorPx1
import Derived.Test.YtllihaahppelhaaDoorPxHstrconvqItoa
import Derived.Test.YtllihaahppelhaaDoorPxHstringsqJoin
import Derived.Test.YtllihaahppelhaaDoorEv
import Derived.Lib.Join
import Derived.Lib.ItoaNum
import Derived.Test.YtllihaahppelhaaDoorPx7
import Derived.Test.YtllihaahppelhaaDoorPxHimplqKinqparents
import Derived.Test.YtllihaahppelhaaDoorPx0
namespace Go.Proofs.YtllihaahppelhaaDoor.Tx
open Go.RowKit Go.Proofs.YtllihaahppelhaaDoor.P Go.Proofs.YtllihaahppelhaaDoorW.PrintWords Go.Proofs.YtllihaahppelhaaDoor.E
/-- A text of these bytes. -/
def mk (l : List UInt8) : ByteArray := ⟨l.toArray⟩
theorem mk_app (a b : List UInt8) : mk a ++ mk b = mk (a ++ b) := by
  apply ByteArray.ext
  rw [ByteArray.data_append]
  simp [mk]
theorem mk_size (l : List UInt8) : (mk l).size = l.length := by simp [mk, ByteArray.size]
theorem mk_list (l : List UInt8) : (mk l).data.toList = l := by simp [mk]
theorem mk_of (b : ByteArray) : mk b.data.toList = b := by
  obtain ⟨⟨l⟩⟩ := b
  rfl
theorem digits_len (k : Nat) : ∀ u : Nat, u < 10 ^ (k + 1) → (Lib.decDigits u).length ≤ k + 1 := by
  induction k with
  | zero =>
    intro u h
    have h10 : u < 10 := by simpa using h
    rw [Lib.decDigits, dif_pos h10]
    simp
  | succ k ih =>
    intro u h
    rw [Lib.decDigits]
    by_cases h10 : u < 10
    · rw [dif_pos h10]; simp
    · rw [dif_neg h10]
      have h1 : u / 10 < 10 ^ (k + 1) := by
        rw [Nat.pow_succ] at h
        omega
      have := ih (u / 10) h1
      simp; omega
/-- A number's text. -/
def num (n : Int) : List UInt8 := Lib.decDigits n.toNat
theorem num_len (n : Int) (h : n ≤ 1000000) : (num n).length ≤ 7 := digits_len 6 n.toNat (by omega)
theorem num_pos (n : Int) : 0 < (num n).length := by
  unfold num
  rw [Lib.decDigits]
  split <;> simp
theorem itoa (n : Int) (h0 : 0 ≤ n) (h1 : n ≤ 1000000) : strconv_Itoa.f n = some (mk (num n)) := by
  unfold strconv_Itoa.f
  rw [if_pos ⟨h0, h1⟩]
  unfold Lib.itoa
  rw [if_neg (by omega)]
  rfl
theorem dig (n : Int) (h0 : 0 ≤ n) (h1 : n < 10) : strOfNums [(wrap64 (48 + n)) % 256] = mk [UInt8.ofNat (48 + n.toNat)] := by
  rw [w64 _ (by omega)]
  unfold strOfNums mk
  have e : (48 + n) % 256 = 48 + n := by omega
  rw [e]
  simp only [List.map_cons, List.map_nil]
  rw [show (48 + n).toNat = 48 + n.toNat by omega]
theorem l1Num (m : Nat) : ∀ n : Int, 0 ≤ n → n ≤ 1000000 → n.toNat ≤ m → Ev (fun k => spec_l1Num.f k n) (mk (num n)) := by
  induction m with
  | zero =>
    intro n h0 _ hm
    have hn : n.toNat < 10 := by omega
    refine Ev.step (f := fun k => _) (fun k => by rw [spec_l1Num.f]) (ifp (by omega) ?_)
    rw [dig n h0 (by omega)]
    unfold num
    rw [Lib.decDigits, dif_pos hn]
    exact now
  | succ m ih =>
    intro n h0 h1 hm
    by_cases h : n < 10
    · have hn : n.toNat < 10 := by omega
      refine Ev.step (f := fun k => _) (fun k => by rw [spec_l1Num.f]) (ifp h ?_)
      rw [dig n h0 h]
      unfold num
      rw [Lib.decDigits, dif_pos hn]
      exact now
    · have hd : n.tdiv 10 = n / 10 := Int.tdiv_eq_ediv_of_nonneg h0
      have hmd : n.tmod 10 = n % 10 := Int.tmod_eq_emod_of_nonneg h0
      refine Ev.step (f := fun k => _) (fun k => by rw [spec_l1Num.f]) (ifn h ?_)
      rw [hd, hmd, w64 (n / 10) (by omega)]
      refine Ev.bind (ih (n / 10) (by omega) (by omega) (by omega)) ?_
      have hl := num_len (n / 10) (by omega)
      simp only [Option.bind_some]
      rw [dig (n % 10) (by omega) (by omega)]
      refine ifp (by rw [mk_size, mk_size]; simp; omega) ?_
      rw [mk_app]
      have e : num n = num (n / 10) ++ [UInt8.ofNat (48 + (n % 10).toNat)] := by
        unfold num
        rw [Lib.decDigits, dif_neg (by omega), show (n / 10).toNat = n.toNat / 10 by omega, show (n % 10).toNat = n.toNat % 10 by omega]
      rw [e]
      exact now
theorem join_snoc (xs : List (List UInt8)) (y sep : List UInt8) (h : xs ≠ []) : Lib.join (xs ++ [y]) sep = Lib.join xs sep ++ sep ++ y := by
  obtain ⟨x, r, rfl⟩ := List.exists_cons_of_ne_nil h
  rw [List.cons_append, Lib.join_cons, Lib.join_cons]
  simp [Lib.joinTail, List.append_assoc]
theorem join_len (m : Nat) (sep : List UInt8) (hs : sep.length = 1) : ∀ xs : List (List UInt8), (∀ x ∈ xs, x.length ≤ m) → (Lib.join xs sep).length ≤ xs.length * (m + 1) := by
  intro xs
  cases xs with
  | nil => intro _; simp [Lib.join_nil]
  | cons x r =>
    intro h
    rw [Lib.join_cons, List.length_append]
    have hx := h x (List.mem_cons_self ..)
    have hr : ∀ r : List (List UInt8), (∀ x ∈ r, x.length ≤ m) → (Lib.joinTail sep r).length ≤ r.length * (m + 1) := by
      intro r
      induction r with
      | nil => intro _; simp [Lib.joinTail]
      | cons y r ih =>
        intro h
        have hy := h y (List.mem_cons_self ..)
        have := ih fun z hz => h z (List.mem_cons_of_mem _ hz)
        simp only [Lib.joinTail, List.map_cons, List.flatten_cons, List.length_append, List.length_cons] at this ⊢
        rw [Nat.add_mul, Nat.one_mul]
        omega
    have := hr r fun z hz => h z (List.mem_cons_of_mem _ hz)
    rw [List.length_cons, Nat.add_mul, Nat.one_mul]
    omega
theorem join (xs : List (List UInt8)) (c : UInt8) (h1 : xs.length ≤ 1000) (m : Nat) (hm : m ≤ 900) (h2 : ∀ x ∈ xs, x.length ≤ m) : strings_Join.f (xs.map mk) ⟨#[c]⟩ = some (mk (Lib.join xs [c])) := by
  unfold strings_Join.f
  have e : (xs.map mk).map (fun x : ByteArray => x.data.toList) = xs := by
    rw [List.map_map]
    have : ((fun x : ByteArray => x.data.toList) ∘ mk) = id := by funext l; exact mk_list l
    rw [this, List.map_id]
  rw [e]
  have hl := join_len m [c] rfl xs h2
  have hq : xs.length * (m + 1) ≤ 1000 * 901 := Nat.mul_le_mul h1 (by omega)
  rw [if_pos ⟨by rw [List.length_map]; exact h1, by show (Lib.join xs [c]).length ≤ 1000000; omega⟩]
  rfl
end Go.Proofs.YtllihaahppelhaaDoor.Tx
namespace Go.Proofs.YtllihaahppelhaaDoor.Pr
open Go.RowKit Go.Proofs.YtllihaahppelhaaDoor.P Go.Proofs.YtllihaahppelhaaDoorW.PrintWords Go.Proofs.YtllihaahppelhaaDoor.E
abbrev Kn := S37
abbrev LK := S39
abbrev rdK (l : List Kn) (i : Int) : Kn := rd_T37 l i
theorem rdK_get (l : List Kn) (i : Nat) (h : i < l.length) : rd_T37 l (i : Int) = l[i] := by simp [rd_T37, List.getD_eq_getElem?_getD, List.getElem?_eq_getElem h]
theorem rdL_get (l : List LK) (i : Nat) (h : i < l.length) : rd_T39 l (i : Int) = l[i] := by simp [rd_T39, List.getD_eq_getElem?_getD, List.getElem?_eq_getElem h]
def conv1 (x : LK) : Kn := ⟨x.f0, x.f1, x.f2⟩
def conv (l : List LK) : List Kn := l.map conv1
theorem conv_length (l : List LK) : (conv l).length = l.length := by simp [conv]
theorem szKinS (l : List LK) (h : l.length ≤ 140737488351232) : laws_szKinS.f l 1048576 = some (if l.length ≤ 1048576 then 1048576 - (l.length : Int) else -1) := by
  unfold laws_szKinS.f
  rw [w64 _ (by omega)]
  by_cases h1 : l.length ≤ 1048576
  · rw [if_neg (by omega), if_pos h1]
  · rw [if_pos (by omega), if_neg h1]
theorem toKinS_l (l : List LK) (hl : l.length ≤ 1099511627776) (n : Nat) : ∀ i : Nat, i ≤ l.length → l.length - i ≤ n →
    Ev (fun k => laws_toKinS.l0 k l (conv (l.take i) ++ List.replicate (l.length - i) z37) (i : Int)) (conv l) := by
  have stop : Ev (fun k => laws_toKinS.l0 k l (conv (l.take l.length) ++ List.replicate (l.length - l.length) z37) (l.length : Int)) (conv l) := by
    refine Ev.step (f := fun k => _) (fun k => by rw [laws_toKinS.l0]) (ifn (by omega) (evEq now ?_))
    simp
  induction n with
  | zero =>
    intro i h1 h2
    obtain rfl : i = l.length := by omega
    exact stop
  | succ n ih =>
    intro i h1 h2
    by_cases hi : i < l.length
    · have hlen : (conv (l.take i) ++ List.replicate (l.length - i) z37).length = l.length := by simp [conv]; omega
      have hset : (conv (l.take i) ++ List.replicate (l.length - i) z37).set i (conv1 l[i]) = conv (l.take (i + 1)) ++ List.replicate (l.length - (i + 1)) z37 := by
        have hc : (conv (l.take i)).length = i := by simp [conv]; omega
        rw [List.set_append_right _ _ (by omega), hc, Nat.sub_self, show l.length - i = (l.length - (i + 1)) + 1 by omega, List.replicate_succ, List.set_cons_zero, List.take_succ_eq_append_getElem hi]
        simp only [conv, List.map_append, List.map_cons, List.map_nil, List.append_assoc, List.cons_append, List.nil_append]
      refine Ev.step (f := fun k => _) (fun k => by rw [laws_toKinS.l0]) (ifp (by omega) (ifp (by omega) ?_))
      refine call (b := (l[i].f0, l[i].f1, l[i].f2)) (by rw [rdL_get l i hi]; rfl) ?_
      refine ifp (by omega) ?_
      rw [w64 _ (by omega), Int.toNat_natCast]
      have := ih (i + 1) (by omega) (by omega)
      rw [← hset] at this
      exact this
    · obtain rfl : i = l.length := by omega
      exact stop
theorem toKinS (l : List LK) (hl : l.length ≤ 1099511627776) : Ev (fun k => laws_toKinS.f k l) (conv l) := by
  unfold laws_toKinS.f
  refine ifp (by omega) (ifp (by omega) ?_)
  have := toKinS_l l hl _ 0 (by omega) (Nat.le_refl _)
  simpa [conv] using this
theorem eqKin (a b c : Int) : laws_eqKin.f a b c a b c = some true := by simp [laws_eqKin.f]
theorem eqKinS_l (l : List Kn) (hl : l.length ≤ 1099511627776) (n : Nat) : ∀ i : Nat, i ≤ l.length → l.length - i ≤ n → Ev (fun k => laws_eqKinS.l0 k l l (i : Int)) true := by
  induction n with
  | zero =>
    intro i h1 h2
    exact Ev.step (f := fun k => _) (fun k => by rw [laws_eqKinS.l0]) (ifn (by omega) now)
  | succ n ih =>
    intro i h1 h2
    by_cases hi : i < l.length
    · refine Ev.step (f := fun k => _) (fun k => by rw [laws_eqKinS.l0]) (ifp (by omega) (ifp (by omega) (ifp (by omega) (call (eqKin _ _ _) (ifp rfl ?_)))))
      rw [w64 _ (by omega)]
      exact ih (i + 1) (by omega) (by omega)
    · exact Ev.step (f := fun k => _) (fun k => by rw [laws_eqKinS.l0]) (ifn (by omega) now)
theorem eqKinS (l : List Kn) (hl : l.length ≤ 1099511627776) : Ev (fun k => laws_eqKinS.f k l l) true := by
  unfold laws_eqKinS.f
  exact ifp rfl (eqKinS_l l hl _ 0 (by omega) (Nat.le_refl _))
end Go.Proofs.YtllihaahppelhaaDoor.Pr
namespace Go.Proofs.YtllihaahppelhaaDoor.Pr
open Go.RowKit Go.Proofs.YtllihaahppelhaaDoor.P Go.Proofs.YtllihaahppelhaaDoorW.PrintWords Go.Proofs.YtllihaahppelhaaDoor.E
theorem l1In (a lo hi : Int) : spec_l1In.f a lo hi = some (decide (lo ≤ a ∧ a ≤ hi)) := by
  unfold spec_l1In.f
  by_cases h : a ≥ lo
  · rw [if_pos h]; congr 1; simp; omega
  · rw [if_neg h]; congr 1; simp; omega
theorem between (a lo hi : Int) : impl_between.f a lo hi = some (decide (lo ≤ a ∧ a ≤ hi)) := l1In a lo hi
theorem rdI (l : List Int) (i : Nat) (h : i < l.length) : rd l (i : Int) = l[i] := by simp [rd, List.getD_eq_getElem?_getD, List.getElem?_eq_getElem h]
/-- The known parents. -/
def ps (k : Kn) : List Int := [k.f1, k.f2].filter fun x => !decide (x < 0)
theorem parents_f (k : Kn) : impl_Kin_parents.f k.f0 k.f1 k.f2 = some (ps k) := rfl
theorem ps_len (k : Kn) : (ps k).length ≤ 2 := by unfold ps; exact Nat.le_trans (List.length_filter_le _ _) (by simp)
theorem mem_ps (k : Kn) (p : Int) : p ∈ ps k ↔ (p = k.f1 ∨ p = k.f2) ∧ 0 ≤ p := by
  unfold ps
  simp [List.mem_filter]
/-- May k be told behind the first i of l? -/
def Fits (l : List Kn) (i : Nat) (k : Kn) : Prop := (0 ≤ k.f0 ∧ k.f0 ≤ 3000) ∧ ((k.f1 = -1 ∧ k.f2 = -1) ∨ ((0 ≤ k.f1 ∧ k.f1 < i ∧ 14 ≤ k.f0 - (rdK l k.f1).f0) ∧ (k.f2 = -1 ∨ (k.f1 < k.f2 ∧ k.f2 < i ∧ 14 ≤ k.f0 - (rdK l k.f2).f0))))
instance (l : List Kn) (i : Nat) (k : Kn) : Decidable (Fits l i k) := by unfold Fits; exact inferInstance
def Fam (l : List Kn) : Prop := (1 ≤ l.length ∧ l.length ≤ 14) ∧ ∀ i, (h : i < l.length) → Fits l i l[i]
noncomputable def good (l : List Kn) : Bool := dec (Fam l)
theorem good_iff (l : List Kn) : good l = true ↔ Fam l := dec_iff _
theorem good_of (l : List Kn) (h : Fam l) : good l = true := (good_iff l).2 h
theorem good_not (l : List Kn) (h : ¬ Fam l) : good l = false := by
  cases e : good l with
  | true => exact absurd ((good_iff l).1 e) h
  | false => rfl
theorem rdK_int (l : List Kn) (p : Int) (h0 : 0 ≤ p) (h1 : p < (l.length : Int)) : ∃ h : p.toNat < l.length, rd_T37 l p = l[p.toNat] := by
  have h : p.toNat < l.length := by omega
  refine ⟨h, ?_⟩
  have e := rdK_get l p.toNat h
  rw [Int.toNat_of_nonneg h0] at e
  exact e
theorem rdK_take (l : List Kn) (i : Nat) (hi : i ≤ l.length) (p : Int) (h0 : 0 ≤ p) (h1 : p < (i : Int)) : rdK (l.take i) p = rdK l p := by
  obtain ⟨h2, e2⟩ := rdK_int (l.take i) p h0 (by rw [List.length_take]; omega)
  obtain ⟨h3, e3⟩ := rdK_int l p h0 (by omega)
  show rd_T37 _ _ = rd_T37 _ _
  rw [e2, e3, List.getElem_take]
theorem Fits_take (l : List Kn) (i : Nat) (hi : i ≤ l.length) (k : Kn) : Fits (l.take i) i k ↔ Fits l i k := by
  unfold Fits
  refine and_congr_right fun _ => or_congr_right ?_
  by_cases h1 : 0 ≤ k.f1 ∧ k.f1 < (i : Int)
  · rw [rdK_take l i hi _ h1.1 h1.2]
    refine and_congr_right fun _ => or_congr_right ?_
    by_cases h2 : 0 ≤ k.f2 ∧ k.f2 < (i : Int)
    · rw [rdK_take l i hi _ h2.1 h2.2]
    · constructor <;> intro h <;> exact absurd (show 0 ≤ k.f2 ∧ k.f2 < (i : Int) by omega) h2
  · constructor <;> intro h <;> exact absurd ⟨h.1.1, h.1.2.1⟩ h1
def Years (l : List Kn) : Prop := ∀ i, (h : i < l.length) → 0 ≤ l[i].f0 ∧ l[i].f0 ≤ 3000
theorem Years_rd (l : List Kn) (hy : Years l) (p : Int) (h0 : 0 ≤ p) (h1 : p < (l.length : Int)) : 0 ≤ (rdK l p).f0 ∧ (rdK l p).f0 ≤ 3000 := by
  obtain ⟨h, e⟩ := rdK_int l p h0 h1
  show 0 ≤ (rd_T37 l p).f0 ∧ (rd_T37 l p).f0 ≤ 3000
  rw [e]; exact hy _ h
theorem faOlder (b : List Kn) (p born : Int) (hy : Years b) (hb : 0 ≤ born ∧ born ≤ 3000) (hl : b.length ≤ 1073741824) : spec_faOlder.f b p born = some (decide (0 ≤ p ∧ p < (b.length : Int) ∧ 14 ≤ born - (rdK b p).f0)) := by
  unfold spec_faOlder.f
  rw [w64 _ (by omega), l1In]
  simp only [Option.bind_some]
  by_cases h : 0 ≤ p ∧ p ≤ (b.length : Int) - 1
  · have hr : 0 ≤ (rd_T37 b p).f0 ∧ (rd_T37 b p).f0 ≤ 3000 := Years_rd b hy p h.1 (by omega)
    rw [if_pos (by simpa using h), if_pos h.1, if_pos (by omega), w64 _ (by omega)]
    congr 1
    rw [decide_eq_decide]
    constructor
    · intro h1; exact ⟨h.1, by omega, h1⟩
    · intro h1; exact h1.2.2
  · rw [if_neg (by simpa using h)]
    congr 1
    symm
    rw [decide_eq_false_iff_not]
    intro h1
    exact h ⟨h1.1, by omega⟩
theorem faFits (b : List Kn) (k : Kn) (hy : Years b) (hl : b.length ≤ 1073741824) : spec_faFits.f b k.f0 k.f1 k.f2 = some (decide (Fits b b.length k)) := by
  unfold spec_faFits.f
  rw [l1In]
  simp only [Option.bind_some]
  by_cases h0 : 0 ≤ k.f0 ∧ k.f0 ≤ 3000
  · rw [if_pos (by simpa using h0)]
    by_cases h1 : k.f1 = -1
    · rw [if_pos h1]
      congr 1
      rw [Bool.eq_iff_iff, decide_eq_true_iff, beq_iff_eq]
      unfold Fits
      constructor
      · intro h; exact ⟨h0, .inl ⟨h1, h⟩⟩
      · rintro ⟨_, h | h⟩
        · exact h.2
        · omega
    · rw [if_neg h1, faOlder b k.f1 k.f0 hy h0 hl]
      simp only [Option.bind_some]
      by_cases h2 : 0 ≤ k.f1 ∧ k.f1 < (b.length : Int) ∧ 14 ≤ k.f0 - (rdK b k.f1).f0
      · rw [if_pos (by simpa using h2)]
        by_cases h3 : k.f2 = -1
        · rw [if_pos h3]
          congr 1
          symm
          rw [decide_eq_true_iff]
          exact ⟨h0, .inr ⟨h2, .inl h3⟩⟩
        · rw [if_neg h3]
          by_cases h4 : k.f1 < k.f2
          · rw [if_pos h4, faOlder b k.f2 k.f0 hy h0 hl]
            simp only [Option.bind_some]
            congr 1
            rw [decide_eq_decide]
            unfold Fits
            constructor
            · intro h5; exact ⟨h0, .inr ⟨h2, .inr ⟨h4, h5.2.1, h5.2.2⟩⟩⟩
            · rintro ⟨_, h | h⟩
              · omega
              · rcases h.2 with h | h
                · exact absurd h h3
                · exact ⟨by omega, h.2.1, h.2.2⟩
          · rw [if_neg h4]
            congr 1
            symm
            rw [decide_eq_false_iff_not]
            rintro ⟨_, h | h⟩
            · omega
            · rcases h.2 with h | h
              · exact h3 h
              · exact h4 h.1
      · rw [if_neg (by simpa using h2)]
        congr 1
        symm
        rw [decide_eq_false_iff_not]
        rintro ⟨_, h | h⟩
        · omega
        · exact h2 h.1
  · rw [if_neg (by simpa using h0)]
    congr 1
    symm
    rw [decide_eq_false_iff_not]
    exact fun h => h0 h.1
def FamFrom (l : List Kn) (i : Nat) : Prop := ∀ j, i ≤ j → (h : j < l.length) → Fits l j l[j]
theorem FamFrom_step (l : List Kn) (i : Nat) (h : i < l.length) (hf : Fits l i l[i]) : FamFrom l (i + 1) ↔ FamFrom l i := by
  constructor
  · intro h1 j hj hl
    by_cases e : j = i
    · subst e; exact hf
    · exact h1 j (by omega) hl
  · intro h1 j hj hl
    exact h1 j (by omega) hl
def YearsTo (l : List Kn) (i : Nat) : Prop := ∀ j, j < i → (h : j < l.length) → 0 ≤ l[j].f0 ∧ l[j].f0 ≤ 3000
theorem YearsTo_take (l : List Kn) (i : Nat) (h : YearsTo l i) : Years (l.take i) := by
  intro j hj
  rw [List.length_take] at hj
  rw [List.getElem_take]
  exact h j (by omega) (by omega)
theorem YearsTo_step (l : List Kn) (i : Nat) (h : i < l.length) (hf : Fits l i l[i]) (hy : YearsTo l i) : YearsTo l (i + 1) := by
  intro j hj hl
  by_cases e : j = i
  · subst e; exact hf.1
  · exact hy j (by omega) hl
theorem faGood_l (l : List Kn) (hl : l.length ≤ 1073741824) (n : Nat) : ∀ i : Nat, i ≤ l.length → l.length - i ≤ n → YearsTo l i → Ev (fun k => spec_faGood.l0 k l l (l.length : Int) (i : Int)) (dec (FamFrom l i)) := by
  have stop : Ev (fun k => spec_faGood.l0 k l l (l.length : Int) (l.length : Int)) (dec (FamFrom l l.length)) := by
    refine Ev.step (f := fun k => _) (fun k => by rw [spec_faGood.l0]) (ifn (by omega) (evEq now ?_))
    symm
    refine dec_pos ?_
    intro j h1 h2
    omega
  induction n with
  | zero =>
    intro i h1 h2 _
    obtain rfl : i = l.length := by omega
    exact stop
  | succ n ih =>
    intro i h1 h2 hy
    by_cases hi : i < l.length
    · refine Ev.step (f := fun k => _) (fun k => by rw [spec_faGood.l0]) (ifp (by omega) (ifp (by omega) (ifp (by omega) (ifp (by omega) ?_))))
      rw [rdK_get l i hi, Int.toNat_natCast, w64 _ (by omega)]
      have hf := faFits (l.take i) l[i] (YearsTo_take l i hy) (by rw [List.length_take]; omega)
      have e : (l.take i).length = i := by rw [List.length_take]; omega
      rw [e] at hf
      refine call hf ?_
      by_cases hq : Fits l i l[i]
      · refine ifp (by simpa using (Fits_take l i h1 l[i]).2 hq) (evEq (ih (i + 1) (by omega) (by omega) (YearsTo_step l i hi hq hy)) ?_)
        exact dec_congr (FamFrom_step l i hi hq)
      · refine ifn (by simpa using fun h => hq ((Fits_take l i h1 l[i]).1 h)) (evEq now ?_)
        symm
        exact dec_neg fun h => hq (h i (Nat.le_refl _) hi)
    · obtain rfl : i = l.length := by omega
      exact stop
theorem faGood (l : List Kn) (hl : l.length ≤ 1073741824) : Ev (fun k => spec_faGood.f k l) (good l) := by
  unfold spec_faGood.f
  refine call (l1In _ _ _) ?_
  by_cases h : 1 ≤ l.length ∧ l.length ≤ 14
  · refine ifp (by simp; omega) (evEq (faGood_l l hl _ 0 (by omega) (Nat.le_refl _) (fun j hj => absurd hj (Nat.not_lt_zero _))) ?_)
    refine dec_congr ?_
    constructor
    · intro h1; exact ⟨h, fun i hi => h1 i (by omega) hi⟩
    · intro h1 j _ hj; exact h1.2 j hj
  · refine ifn (by simp; omega) (evEq now ?_)
    rw [good_not l fun h1 => h h1.1]
end Go.Proofs.YtllihaahppelhaaDoor.Pr
namespace Go.Proofs.YtllihaahppelhaaDoor.Pr
open Go.RowKit Go.Proofs.YtllihaahppelhaaDoor.P Go.Proofs.YtllihaahppelhaaDoorW.PrintWords Go.Proofs.YtllihaahppelhaaDoor.E
/-- The program's tests of one of the kin. -/
def Own (i : Nat) (k : Kn) : Prop := (0 ≤ k.f0 ∧ k.f0 ≤ 3000) ∧ (-1 ≤ k.f1 ∧ k.f1 ≤ (i : Int) - 1) ∧ (-1 ≤ k.f2 ∧ k.f2 ≤ (i : Int) - 1) ∧ ¬ (0 ≤ k.f2 ∧ k.f2 ≤ k.f1) ∧ ¬ (k.f1 < 0 ∧ 0 ≤ k.f2)
theorem Fits_own (l : List Kn) (i : Nat) (k : Kn) : Fits l i k ↔ Own i k ∧ ∀ p ∈ ps k, (rdK l p).f0 + 14 ≤ k.f0 := by
  unfold Fits Own
  simp only [mem_ps]
  constructor
  · rintro ⟨h0, h | ⟨h1, h2⟩⟩
    · refine ⟨⟨h0, by omega, by omega, by omega, by omega⟩, ?_⟩
      rintro p ⟨h3 | h3, h4⟩ <;> omega
    · rcases h2 with h2 | h2
      · refine ⟨⟨h0, by omega, by omega, by omega, by omega⟩, ?_⟩
        rintro p ⟨h3 | h3, h4⟩
        · subst h3; omega
        · omega
      · refine ⟨⟨h0, by omega, by omega, by omega, by omega⟩, ?_⟩
        rintro p ⟨h3 | h3, h4⟩
        · subst h3; omega
        · subst h3; omega
  · rintro ⟨⟨h0, h1, h2, h3, h4⟩, h5⟩
    refine ⟨h0, ?_⟩
    by_cases e : k.f1 = -1
    · exact .inl ⟨e, by omega⟩
    · refine .inr ⟨⟨by omega, by omega, ?_⟩, ?_⟩
      · have := h5 k.f1 ⟨.inl rfl, by omega⟩
        omega
      · by_cases e2 : k.f2 = -1
        · exact .inl e2
        · refine .inr ⟨by omega, by omega, ?_⟩
          have := h5 k.f2 ⟨.inr rfl, by omega⟩
          omega
theorem isFamily_l1 (l : List Kn) (i : Nat) (k : Kn) (r : Bool) (L : List Int) (hi : i < l.length) (hL : L.length ≤ 2) (hy : YearsTo l i) (hv : ∀ p ∈ L, 0 ≤ p ∧ p < (i : Int)) (hr : Ev (fun n => impl_IsFamily.l0 n l l (l.length : Int) (wrap64 ((i : Int) + 1))) r) (n : Nat) :
    ∀ j : Nat, j ≤ L.length → L.length - j ≤ n → Ev (fun n => impl_IsFamily.l1 n l l (l.length : Int) (i : Int) L (L.length : Int) (j : Int) k.f0 k.f1 k.f2) (if (∀ p ∈ L.drop j, (rdK l p).f0 + 14 ≤ k.f0) then r else false) := by
  have stop : Ev (fun n => impl_IsFamily.l1 n l l (l.length : Int) (i : Int) L (L.length : Int) (L.length : Int) k.f0 k.f1 k.f2) (if (∀ p ∈ L.drop L.length, (rdK l p).f0 + 14 ≤ k.f0) then r else false) := by
    rw [if_pos (by simp)]
    exact Ev.step (f := fun k => _) (fun k => by rw [impl_IsFamily.l1]) (ifn (by omega) hr)
  induction n with
  | zero =>
    intro j h1 h2
    obtain rfl : j = L.length := by omega
    exact stop
  | succ n ih =>
    intro j h1 h2
    by_cases hj : j < L.length
    · have hp := hv L[j] (List.getElem_mem hj)
      have hb : 0 ≤ (rd_T37 l L[j]).f0 ∧ (rd_T37 l L[j]).f0 ≤ 3000 := by
        obtain ⟨h3, e3⟩ := rdK_int l L[j] hp.1 (by omega)
        rw [e3]; exact hy _ (by omega) h3
      refine Ev.step (f := fun k => _) (fun k => by rw [impl_IsFamily.l1]) (ifp (by omega) (ifp (by omega) (ifp (by omega) ?_)))
      rw [rdI L j hj, w64 (j + 1) (by omega), w64 _ (by omega)]
      refine ifp hp.1 (ifp (by omega) ?_)
      have e : (∀ p ∈ L.drop j, (rdK l p).f0 + 14 ≤ k.f0) ↔ (rdK l L[j]).f0 + 14 ≤ k.f0 ∧ ∀ p ∈ L.drop (j + 1), (rdK l p).f0 + 14 ≤ k.f0 := by
        rw [List.drop_eq_getElem_cons hj]
        simp only [List.mem_cons, forall_eq_or_imp]
      by_cases h3 : (rdK l L[j]).f0 + 14 ≤ k.f0
      · have h3' : (rd_T37 l L[j]).f0 + 14 ≤ k.f0 := h3
        refine ifn (by omega) (evEq (ih (j + 1) (by omega) (by omega)) ?_)
        simp only [e, h3, true_and]
      · have h3' : ¬ (rd_T37 l L[j]).f0 + 14 ≤ k.f0 := h3
        refine ifp (by omega) (evEq now ?_)
        rw [if_neg (fun h => h3 (e.1 h).1)]
    · obtain rfl : j = L.length := by omega
      exact stop
theorem isFamily_j1 (l : List Kn) (i : Nat) (k : Kn) (x r : Bool) (hi : i < l.length) (hy : YearsTo l i) (h0 : 0 ≤ k.f0 ∧ k.f0 ≤ 3000) (h1 : -1 ≤ k.f1 ∧ k.f1 ≤ (i : Int) - 1) (h2 : -1 ≤ k.f2 ∧ k.f2 ≤ (i : Int) - 1) (hx : x = decide ((0 ≤ k.f2 ∧ k.f2 ≤ k.f1) ∨ (k.f1 < 0 ∧ 0 ≤ k.f2)))
    (hr : Ev (fun n => impl_IsFamily.l0 n l l (l.length : Int) (wrap64 ((i : Int) + 1))) r) : Ev (fun n => impl_IsFamily.j1 n l l (l.length : Int) (i : Int) x k.f0 k.f1 k.f2) (if Fits l i k then r else false) := by
  refine Ev.step (f := fun k => _) (fun k => by rw [impl_IsFamily.j1]) ?_
  subst hx
  by_cases h : (0 ≤ k.f2 ∧ k.f2 ≤ k.f1) ∨ (k.f1 < 0 ∧ 0 ≤ k.f2)
  · refine ifp (by simpa using h) (evEq now ?_)
    rw [if_neg]
    intro h3
    have := ((Fits_own l i k).1 h3).1
    unfold Own at this
    rcases h with h | h
    · exact this.2.2.2.1 h
    · exact this.2.2.2.2 h
  · refine ifn (by simpa using h) (call (parents_f k) ?_)
    have h4 := isFamily_l1 l i k r (ps k) hi (ps_len k) hy (fun p hp => by rw [mem_ps] at hp; omega) hr _ 0 (by omega) (Nat.le_refl _)
    refine evEq h4 ?_
    have e : (∀ p ∈ (ps k).drop 0, (rdK l p).f0 + 14 ≤ k.f0) ↔ Fits l i k := by
      rw [Fits_own, List.drop_zero]
      constructor
      · intro h5; exact ⟨⟨h0, h1, h2, fun h6 => h (.inl h6), fun h6 => h (.inr h6)⟩, h5⟩
      · exact fun h5 => h5.2
    simp only [e]
theorem isFamily_l (l : List Kn) (hl : l.length ≤ 1073741824) (n : Nat) : ∀ i : Nat, i ≤ l.length → l.length - i ≤ n → YearsTo l i → Ev (fun k => impl_IsFamily.l0 k l l (l.length : Int) (i : Int)) (dec (FamFrom l i)) := by
  have stop : Ev (fun k => impl_IsFamily.l0 k l l (l.length : Int) (l.length : Int)) (dec (FamFrom l l.length)) := by
    refine Ev.step (f := fun k => _) (fun k => by rw [impl_IsFamily.l0]) (ifn (by omega) (evEq now ?_))
    symm
    refine dec_pos ?_
    intro j h1 h2
    omega
  induction n with
  | zero =>
    intro i h1 h2 _
    obtain rfl : i = l.length := by omega
    exact stop
  | succ n ih =>
    intro i h1 h2 hy
    by_cases hi : i < l.length
    · have key : Ev (fun k => impl_IsFamily.l0 k l l (l.length : Int) (i : Int)) (if Fits l i l[i] then dec (FamFrom l (i + 1)) else false) ∨ Ev (fun k => impl_IsFamily.l0 k l l (l.length : Int) (i : Int)) (if Fits l i l[i] then dec (FamFrom l i) else false) := by
        generalize hk : l[i] = k
        have go : ∀ x : Bool, x = decide ((0 ≤ k.f2 ∧ k.f2 ≤ k.f1) ∨ (k.f1 < 0 ∧ 0 ≤ k.f2)) → (0 ≤ k.f0 ∧ k.f0 ≤ 3000) → (-1 ≤ k.f1 ∧ k.f1 ≤ (i : Int) - 1) → (-1 ≤ k.f2 ∧ k.f2 ≤ (i : Int) - 1) →
            Ev (fun n => impl_IsFamily.j1 n l l (l.length : Int) (i : Int) x k.f0 k.f1 k.f2) (if Fits l i k then dec (FamFrom l i) else false) := by
          intro x hx a0 a1 a2
          by_cases hf : Fits l i k
          · have h3 := ih (i + 1) (by omega) (by omega) (YearsTo_step l i hi (by rw [hk]; exact hf) hy)
            rw [show ((i + 1 : Nat) : Int) = wrap64 ((i : Int) + 1) by rw [w64 _ (by omega)]; rfl] at h3
            refine evEq (isFamily_j1 l i k x _ hi hy a0 a1 a2 hx h3) ?_
            rw [if_pos hf, if_pos hf]
            exact dec_congr (FamFrom_step l i hi (by rw [hk]; exact hf))
          · refine Ev.step (f := fun k => _) (fun k => by rw [impl_IsFamily.j1]) ?_
            subst hx
            rw [if_neg hf]
            by_cases h : (0 ≤ k.f2 ∧ k.f2 ≤ k.f1) ∨ (k.f1 < 0 ∧ 0 ≤ k.f2)
            · exact ifp (by simpa using h) now
            · refine ifn (by simpa using h) (call (parents_f k) ?_)
              have hex : ∃ j : Nat, j ≤ (ps k).length ∧ True := ⟨0, by omega, trivial⟩
              clear hex
              have nf : ¬ ∀ p ∈ ps k, (rdK l p).f0 + 14 ≤ k.f0 := fun h5 => hf ((Fits_own l i k).2 ⟨⟨a0, a1, a2, fun h6 => h (.inl h6), fun h6 => h (.inr h6)⟩, h5⟩)
              have stuck : ∀ (n : Nat) (j : Nat), j ≤ (ps k).length → (ps k).length - j ≤ n → (¬ ∀ p ∈ (ps k).drop j, (rdK l p).f0 + 14 ≤ k.f0) → Ev (fun n => impl_IsFamily.l1 n l l (l.length : Int) (i : Int) (ps k) ((ps k).length : Int) (j : Int) k.f0 k.f1 k.f2) false := by
                intro n
                induction n with
                | zero =>
                  intro j h1 h2 h3
                  exact absurd (by rw [List.drop_eq_nil_of_le (by omega)]; simp) h3
                | succ n ih2 =>
                  intro j h1 h2 h3
                  by_cases hj : j < (ps k).length
                  · have hL := ps_len k
                    have hp : 0 ≤ (ps k)[j] ∧ (ps k)[j] < (i : Int) := by
                      have := (mem_ps k (ps k)[j]).1 (List.getElem_mem hj)
                      omega
                    have hb : 0 ≤ (rd_T37 l (ps k)[j]).f0 ∧ (rd_T37 l (ps k)[j]).f0 ≤ 3000 := by
                      obtain ⟨h3, e3⟩ := rdK_int l (ps k)[j] hp.1 (by omega)
                      rw [e3]; exact hy _ (by omega) h3
                    refine Ev.step (f := fun k => _) (fun k => by rw [impl_IsFamily.l1]) (ifp (by omega) (ifp (by omega) (ifp (by omega) ?_)))
                    rw [rdI (ps k) j hj, w64 (j + 1) (by omega), w64 _ (by omega)]
                    refine ifp hp.1 (ifp (by omega) ?_)
                    by_cases h4 : (rdK l (ps k)[j]).f0 + 14 ≤ k.f0
                    · have h4' : (rd_T37 l (ps k)[j]).f0 + 14 ≤ k.f0 := h4
                      refine ifn (by omega) (ih2 (j + 1) (by omega) (by omega) ?_)
                      intro h5
                      apply h3
                      rw [List.drop_eq_getElem_cons hj]
                      simp only [List.mem_cons, forall_eq_or_imp]
                      exact ⟨h4, h5⟩
                    · have h4' : ¬ (rd_T37 l (ps k)[j]).f0 + 14 ≤ k.f0 := h4
                      exact ifp (by omega) now
                  · exact absurd (by rw [List.drop_eq_nil_of_le (by omega)]; simp) h3
              exact stuck _ 0 (by omega) (Nat.le_refl _) (by simpa using nf)
        have bad : ¬ Fits l i k → (false : Bool) = (if Fits l i k then dec (FamFrom l i) else false) := fun h => by rw [if_neg h]
        refine .inr (Ev.step (f := fun k => _) (fun k => by rw [impl_IsFamily.l0]) (ifp (by omega) (ifp (by omega) (ifp (by omega) ?_))))
        rw [rdK_get l i hi, hk, w64 ((i : Int) - 1) (by omega)]
        refine call (between _ _ _) ?_
        by_cases a0 : 0 ≤ k.f0 ∧ k.f0 ≤ 3000
        · refine ifp (by simpa using a0) (call (between _ _ _) ?_)
          by_cases a1 : -1 ≤ k.f1 ∧ k.f1 ≤ (i : Int) - 1
          · refine ifp (by simpa using a1) (call (between _ _ _) ?_)
            by_cases a2 : -1 ≤ k.f2 ∧ k.f2 ≤ (i : Int) - 1
            · refine ifp (by simpa using a2) ?_
              by_cases b0 : k.f2 ≥ 0
              · refine ifp b0 ?_
                by_cases b1 : k.f2 ≤ k.f1
                · exact ifp b1 (go _ (by symm; rw [decide_eq_true_iff]; omega) a0 a1 a2)
                · refine ifn b1 ?_
                  by_cases b2 : k.f1 < 0
                  · exact ifp b2 (go _ (by rw [decide_eq_decide]; omega) a0 a1 a2)
                  · exact ifn b2 (go _ (by symm; rw [decide_eq_false_iff_not]; omega) a0 a1 a2)
              · refine ifn b0 ?_
                by_cases b2 : k.f1 < 0
                · exact ifp b2 (go _ (by rw [decide_eq_decide]; omega) a0 a1 a2)
                · exact ifn b2 (go _ (by symm; rw [decide_eq_false_iff_not]; omega) a0 a1 a2)
            · refine ifn (by simpa using a2) ?_
              have nf : ¬ Fits l i k := fun h => a2 ((Fits_own l i k).1 h).1.2.2.1
              refine Ev.step (f := fun k => _) (fun k => by rw [impl_IsFamily.j1]) (ifp rfl (evEq now (bad nf)))
          · refine ifn (by simpa using a1) ?_
            have nf : ¬ Fits l i k := fun h => a1 ((Fits_own l i k).1 h).1.2.1
            refine Ev.step (f := fun k => _) (fun k => by rw [impl_IsFamily.j1]) (ifp rfl (evEq now (bad nf)))
        · refine ifn (by simpa using a0) ?_
          have nf : ¬ Fits l i k := fun h => a0 h.1
          refine Ev.step (f := fun k => _) (fun k => by rw [impl_IsFamily.j1]) (ifp rfl (evEq now (bad nf)))
      rcases key with key | key
      · refine evEq key ?_
        by_cases hf : Fits l i l[i]
        · rw [if_pos hf]; exact dec_congr (FamFrom_step l i hi hf)
        · rw [if_neg hf]; symm; exact dec_neg fun h => hf (h i (Nat.le_refl _) hi)
      · refine evEq key ?_
        by_cases hf : Fits l i l[i]
        · rw [if_pos hf]
        · rw [if_neg hf]; symm; exact dec_neg fun h => hf (h i (Nat.le_refl _) hi)
    · obtain rfl : i = l.length := by omega
      exact stop
theorem isFamily (l : List Kn) (hl : l.length ≤ 1073741824) : Ev (fun k => impl_IsFamily.f k l) (good l) := by
  unfold impl_IsFamily.f
  refine call (between _ _ _) ?_
  by_cases h : 1 ≤ l.length ∧ l.length ≤ 14
  · refine ifp (by simp; omega) (evEq (isFamily_l l hl _ 0 (by omega) (Nat.le_refl _) (fun j hj => absurd hj (Nat.not_lt_zero _))) ?_)
    refine dec_congr ?_
    constructor
    · intro h1; exact ⟨h, fun i hi => h1 i (by omega) hi⟩
    · intro h1 j _ hj; exact h1.2 j hj
  · refine ifn (by simp; omega) (evEq now ?_)
    rw [good_not l fun h1 => h h1.1]
end Go.Proofs.YtllihaahppelhaaDoor.Pr
namespace Go.Proofs.YtllihaahppelhaaDoor.Pr
open Go.RowKit Go.Proofs.YtllihaahppelhaaDoor.P Go.Proofs.YtllihaahppelhaaDoorW.PrintWords Go.Proofs.YtllihaahppelhaaDoor.E
theorem faParents_l (L : List Int) (hL : L.length ≤ 1000) (n : Nat) : ∀ (i : Nat) (acc : List Int), i ≤ L.length → L.length - i ≤ n → acc.length ≤ i →
    Ev (fun k => spec_faParents.l0 k acc L (L.length : Int) (i : Int)) (acc ++ (L.drop i).filter fun x => !decide (x < 0)) := by
  induction n with
  | zero =>
    intro i acc h1 h2 h3
    obtain rfl : i = L.length := by omega
    refine Ev.step (f := fun k => _) (fun k => by rw [spec_faParents.l0]) (ifn (by omega) (evEq now ?_))
    simp
  | succ n ih =>
    intro i acc h1 h2 h3
    by_cases hi : i < L.length
    · refine Ev.step (f := fun k => _) (fun k => by rw [spec_faParents.l0]) (ifp (by omega) (ifp (by omega) (ifp (by omega) ?_)))
      rw [rdI L i hi, w64 _ (by omega), List.drop_eq_getElem_cons hi]
      by_cases hx : L[i] ≥ 0
      · refine ifp hx (ifp (by omega) (evEq (ih (i + 1) (acc ++ [L[i]]) (by omega) (by omega) (by simp; omega)) ?_))
        rw [List.filter_cons_of_pos (by simpa using hx)]
        simp
      · refine ifn hx (evEq (ih (i + 1) acc (by omega) (by omega) (by omega)) ?_)
        rw [List.filter_cons_of_neg (by simp; omega)]
    · obtain rfl : i = L.length := by omega
      refine Ev.step (f := fun k => _) (fun k => by rw [spec_faParents.l0]) (ifn (by omega) (evEq now ?_))
      simp
theorem faParents (l : List Kn) (i : Nat) (hi : i < l.length) : Ev (fun k => spec_faParents.f k l (i : Int)) (ps l[i]) := by
  unfold spec_faParents.f
  refine ifp (by omega) (ifp (by omega) ?_)
  rw [rdK_get l i hi]
  exact faParents_l [l[i].f1, l[i].f2] (by simp) _ 0 [] (by omega) (Nat.le_refl _) (by simp)
end Go.Proofs.YtllihaahppelhaaDoor.Pr
namespace Go.Proofs.YtllihaahppelhaaDoor.Pr
open Go.RowKit Go.Proofs.YtllihaahppelhaaDoor.P Go.Proofs.YtllihaahppelhaaDoorW.PrintWords Go.Proofs.YtllihaahppelhaaDoor.E
/-- The parents of somebody. -/
abbrev pp (l : List Kn) (i : Int) : List Int := ps (rdK l i)
theorem faParentsI (l : List Kn) (i : Int) (h : 0 ≤ i ∧ i < (l.length : Int)) : Ev (fun k => spec_faParents.f k l i) (pp l i) := by
  obtain ⟨h2, e2⟩ := rdK_int l i h.1 h.2
  have := faParents l i.toNat h2
  rw [Int.toNat_of_nonneg h.1] at this
  show Ev _ (ps (rd_T37 l i))
  rw [e2]
  exact this
theorem Fam_pp (l : List Kn) (hf : Fam l) (i p : Int) (hi : 0 ≤ i ∧ i < (l.length : Int)) (hp : p ∈ pp l i) : 0 ≤ p ∧ p < i := by
  obtain ⟨h2, e2⟩ := rdK_int l i hi.1 hi.2
  change p ∈ ps (rd_T37 l i) at hp
  rw [e2] at hp
  have h3 := hf.2 _ h2
  have h4 := (mem_ps _ p).1 hp
  unfold Fits at h3
  omega
end Go.Proofs.YtllihaahppelhaaDoor.Pr
namespace Go.Proofs.YtllihaahppelhaaDoor.Pure
open Go.RowKit Go.Proofs.YtllihaahppelhaaDoor.P Go.Proofs.YtllihaahppelhaaDoor.Pr Go.Proofs.YtllihaahppelhaaDoor.E Go.Proofs.YtllihaahppelhaaDoorW.PrintWords Go.Proofs.YtllihaahppelhaaDoor.Tx
def Small (L : List Int) : Prop := ∀ p ∈ L, 0 ≤ p ∧ p ≤ 1000000
/-- Numbers' text. -/
def nums (L : List Int) : List UInt8 := Lib.join (L.map num) [46]
/-- Somebody's text. -/
def item (k : Kn) : List UInt8 := nums (k.f0 :: ps k)
def items (l : List Kn) : List (List UInt8) := l.map item
theorem lit46 : (⟨#[46]⟩ : ByteArray) = mk [46] := rfl
theorem lit59 : (⟨#[59]⟩ : ByteArray) = mk [59] := rfl
theorem joined_l (L : List Int) (hL : Small L) (h9 : L.length ≤ 900) (n : Nat) : ∀ i : Nat, i ≤ L.length → L.length - i ≤ n →
    Ev (fun k => impl_joined.l0 k ⟨#[46]⟩ (((L.take i).map num).map mk) L (L.length : Int) (i : Int)) (mk (nums L)) := by
  have stop : Ev (fun k => impl_joined.l0 k ⟨#[46]⟩ (((L.take L.length).map num).map mk) L (L.length : Int) (L.length : Int)) (mk (nums L)) := by
    refine Ev.step (f := fun k => _) (fun k => by rw [impl_joined.l0]) (ifn (by omega) ?_)
    rw [List.take_length]
    refine call (join (L.map num) 46 (by rw [List.length_map]; omega) 7 (by decide) (fun x hx => ?_)) ?_
    · obtain ⟨p, hp, rfl⟩ := List.mem_map.1 hx
      exact num_len p (hL p hp).2
    · exact now
  induction n with
  | zero =>
    intro i h1 h2
    obtain rfl : i = L.length := by omega
    exact stop
  | succ n ih =>
    intro i h1 h2
    by_cases hi : i < L.length
    · have hx := hL L[i] (List.getElem_mem hi)
      have hnext := ih (i + 1) (by omega) (by omega)
      have hw : wrap64 ((i : Int) + 1) = ((i + 1 : Nat) : Int) := by rw [w64 _ (by omega)]; omega
      rw [List.take_add_one, List.getElem?_eq_getElem hi, List.map_append, List.map_append] at hnext
      refine Ev.step (f := fun k => _) (fun k => by rw [impl_joined.l0]) (ifp (by omega) (ifp (by omega) (ifp (by omega) ?_)))
      rw [rdI L i hi]
      refine call (itoa L[i] hx.1 hx.2) (ifp (by rw [List.length_map, List.length_map, List.length_take]; omega) ?_)
      rw [hw]
      exact hnext
    · obtain rfl : i = L.length := by omega
      exact stop
theorem joined (L : List Int) (hL : Small L) (h9 : L.length ≤ 900) : Ev (fun k => impl_joined.f k L ⟨#[46]⟩) (mk (nums L)) := by
  have := joined_l L hL h9 _ 0 (Nat.zero_le _) (Nat.le_refl _)
  exact this
theorem kin_small (l : List Kn) (hf : Fam l) (i : Nat) (hi : i < l.length) : Small (l[i].f0 :: ps l[i]) ∧ (l[i].f0 :: ps l[i]).length ≤ 3 := by
  have hl := hf.1.2
  refine ⟨fun p hp => ?_, by have := ps_len l[i]; simp; omega⟩
  rcases List.mem_cons.1 hp with rfl | hp
  · have := (hf.2 i hi).1
    exact ⟨this.1, by omega⟩
  · have hr : rdK l (i : Int) = l[i] := rdK_get l i hi
    have := Fam_pp l hf (i : Int) p ⟨by omega, by omega⟩ (by show p ∈ ps (rdK l (i : Int)); rw [hr]; exact hp)
    exact ⟨this.1, by omega⟩
theorem item_len (l : List Kn) (hf : Fam l) (i : Nat) (hi : i < l.length) : (item l[i]).length ≤ 24 := by
  obtain ⟨h1, h2⟩ := kin_small l hf i hi
  have := join_len 7 [46] rfl ((l[i].f0 :: ps l[i]).map num) (fun x hx => by
    obtain ⟨p, hp, rfl⟩ := List.mem_map.1 hx
    exact num_len p (h1 p hp).2)
  rw [List.length_map] at this
  unfold item nums
  omega
theorem items_len (l : List Kn) (hf : Fam l) : ∀ x ∈ items l, x.length ≤ 24 := by
  intro x hx
  obtain ⟨y, hy, rfl⟩ := List.mem_map.1 hx
  obtain ⟨i, hi, rfl⟩ := List.mem_iff_getElem.1 hy
  exact item_len l hf i hi
theorem items_take (l : List Kn) (i : Nat) (h : i < l.length) : items (l.take (i + 1)) = items (l.take i) ++ [item l[i]] := by
  unfold items
  rw [List.take_add_one, List.getElem?_eq_getElem h, List.map_append]
  rfl
theorem join_bd (l : List Kn) (hf : Fam l) (i : Nat) : (Lib.join (items (l.take i)) [59]).length ≤ 350 := by
  have h1 := join_len 24 [59] rfl (items (l.take i)) (fun x hx => items_len l hf x (by
    obtain ⟨y, hy, rfl⟩ := List.mem_map.1 hx
    exact List.mem_map.2 ⟨y, List.mem_of_mem_take hy, rfl⟩))
  have h2 : (items (l.take i)).length ≤ 14 := by unfold items; rw [List.length_map, List.length_take]; have := hf.1.2; omega
  omega
theorem familyText_l (l : List Kn) (hf : Fam l) (n : Nat) : ∀ i : Nat, i ≤ l.length → l.length - i ≤ n →
    Ev (fun k => impl_familyText.l0 k ((items (l.take i)).map mk) l (l.length : Int) (i : Int)) (mk (Lib.join (items l) [59])) := by
  have hl := hf.1.2
  have stop : Ev (fun k => impl_familyText.l0 k ((items (l.take l.length)).map mk) l (l.length : Int) (l.length : Int)) (mk (Lib.join (items l) [59])) := by
    refine Ev.step (f := fun k => _) (fun k => by rw [impl_familyText.l0]) (ifn (by omega) ?_)
    rw [List.take_length]
    refine call (join (items l) 59 (by unfold items; rw [List.length_map]; omega) 24 (by decide) (items_len l hf)) ?_
    exact now
  induction n with
  | zero =>
    intro i h1 h2
    obtain rfl : i = l.length := by omega
    exact stop
  | succ n ih =>
    intro i h1 h2
    by_cases hi : i < l.length
    · obtain ⟨k1, k2⟩ := kin_small l hf i hi
      have hnext := ih (i + 1) (by omega) (by omega)
      have hw : wrap64 ((i : Int) + 1) = ((i + 1 : Nat) : Int) := by rw [w64 _ (by omega)]; omega
      rw [items_take l i hi, List.map_append] at hnext
      have hr : rd_T37 l (i : Int) = l[i] := rdK_get l i hi
      refine Ev.step (f := fun k => _) (fun k => by rw [impl_familyText.l0]) (ifp (by omega) (ifp (by omega) (ifp (by omega) ?_)))
      rw [hr]
      refine call rfl (call (parents_f l[i]) (ifp (by simp at k2 ⊢; omega) ?_))
      refine Ev.bind (joined (l[i].f0 :: ps l[i]) k1 (by omega)) (ifp (by unfold items; rw [List.length_map, List.length_map, List.length_take]; omega) ?_)
      rw [hw]
      exact hnext
    · obtain rfl : i = l.length := by omega
      exact stop
theorem familyText (l : List Kn) (hf : Fam l) : Ev (fun k => impl_familyText.f k l) (mk (Lib.join (items l) [59])) := by
  have := familyText_l l hf _ 0 (Nat.zero_le _) (Nat.le_refl _)
  exact this
theorem tail_take (L : List Int) (i : Nat) (h : i < L.length) : Lib.joinTail [46] ((L.take (i + 1)).map num) = Lib.joinTail [46] ((L.take i).map num) ++ ([46] ++ num L[i]) := by
  rw [List.take_add_one, List.getElem?_eq_getElem h, List.map_append]
  simp [Lib.joinTail]
theorem tail_len (L : List Int) (hL : Small L) (i : Nat) (h2 : L.length ≤ 2) : (Lib.joinTail [46] ((L.take i).map num)).length ≤ 24 := by
  have := join_len 7 [46] rfl ([] :: (L.take i).map num) (fun x hx => by
    rcases List.mem_cons.1 hx with rfl | hx
    · simp
    · obtain ⟨p, hp, rfl⟩ := List.mem_map.1 hx
      exact num_len p (hL p (List.mem_of_mem_take hp)).2)
  rw [Lib.join_cons, List.nil_append, List.length_cons, List.length_map, List.length_take] at this
  omega
theorem faText_l1 (l : List Kn) (i : Int) (L : List Int) (hL : Small L) (h2 : L.length ≤ 2) (r : ByteArray) (base : List UInt8) (hb : base.length ≤ 1000)
    (hr : Ev (fun k => spec_faText.l0 k l (mk (base ++ Lib.joinTail [46] (L.map num))) l (l.length : Int) (wrap64 (i + 1))) r) (n : Nat) : ∀ j : Nat, j ≤ L.length → L.length - j ≤ n →
    Ev (fun k => spec_faText.l1 k l (mk (base ++ Lib.joinTail [46] ((L.take j).map num))) l (l.length : Int) i L (L.length : Int) (j : Int)) r := by
  have stop : Ev (fun k => spec_faText.l1 k l (mk (base ++ Lib.joinTail [46] ((L.take L.length).map num))) l (l.length : Int) i L (L.length : Int) (L.length : Int)) r := by
    refine Ev.step (f := fun k => _) (fun k => by rw [spec_faText.l1]) (ifn (by omega) ?_)
    rw [List.take_length]; exact hr
  induction n with
  | zero =>
    intro j h1 h3
    obtain rfl : j = L.length := by omega
    exact stop
  | succ n ih =>
    intro j h1 h3
    by_cases hj : j < L.length
    · have hx := hL L[j] (List.getElem_mem hj)
      have hn := num_len L[j] hx.2
      have ht := tail_len L hL j h2
      have hnext := ih (j + 1) (by omega) (by omega)
      have hw : wrap64 ((j : Int) + 1) = ((j + 1 : Nat) : Int) := by rw [w64 _ (by omega)]; omega
      rw [tail_take L j hj, ← List.append_assoc] at hnext
      refine Ev.step (f := fun k => _) (fun k => by rw [spec_faText.l1]) (ifp (by omega) (ifp (by omega) (ifp (by omega) ?_)))
      rw [rdI L j hj, lit46]
      refine Ev.bind (l1Num _ L[j] hx.1 hx.2 (Nat.le_refl _)) (ifp (by rw [mk_size]; omega) ?_)
      rw [mk_app]
      refine ifp (by rw [mk_size, mk_size, List.length_append, List.length_append, List.length_cons, List.length_nil]; omega) ?_
      rw [mk_app, hw]
      exact hnext
    · obtain rfl : j = L.length := by omega
      exact stop
theorem faText_j1 (l : List Kn) (hf : Fam l) (i : Nat) (hi : i < l.length) (r : ByteArray) (base : List UInt8) (hb : base.length ≤ 900)
    (hr : Ev (fun k => spec_faText.l0 k l (mk (base ++ item l[i])) l (l.length : Int) (wrap64 ((i : Int) + 1))) r) :
    Ev (fun k => spec_faText.j1 k l (mk base) (i : Int) l (l.length : Int) (i : Int) l[i].f0 l[i].f1 l[i].f2) r := by
  obtain ⟨k1, k2⟩ := kin_small l hf i hi
  have h0 := k1 l[i].f0 (List.mem_cons_self ..)
  have hps : Small (ps l[i]) := fun p hp => k1 p (List.mem_cons_of_mem _ hp)
  have hn := num_len l[i].f0 h0.2
  refine Ev.step (f := fun k => _) (fun k => by rw [spec_faText.j1]) ?_
  refine Ev.bind (l1Num _ l[i].f0 h0.1 h0.2 (Nat.le_refl _)) (ifp (by rw [mk_size, mk_size]; omega) ?_)
  refine Ev.bind (faParents l i hi) ?_
  rw [mk_app]
  have e : base ++ item l[i] = (base ++ num l[i].f0) ++ Lib.joinTail [46] ((ps l[i]).map num) := by
    unfold item nums
    rw [List.map_cons, Lib.join_cons, List.append_assoc]
  rw [e] at hr
  have := faText_l1 l (i : Int) (ps l[i]) hps (ps_len _) r (base ++ num l[i].f0) (by simp; omega) hr _ 0 (Nat.zero_le _) (Nat.le_refl _)
  rw [List.take_zero, show Lib.joinTail [46] (([] : List Int).map num) = [] from rfl, List.append_nil] at this
  exact this
theorem faText_l (l : List Kn) (hf : Fam l) (n : Nat) : ∀ i : Nat, i ≤ l.length → l.length - i ≤ n →
    Ev (fun k => spec_faText.l0 k l (mk (Lib.join (items (l.take i)) [59])) l (l.length : Int) (i : Int)) (mk (Lib.join (items l) [59])) := by
  have hl := hf.1.2
  have stop : Ev (fun k => spec_faText.l0 k l (mk (Lib.join (items (l.take l.length)) [59])) l (l.length : Int) (l.length : Int)) (mk (Lib.join (items l) [59])) := by
    refine Ev.step (f := fun k => _) (fun k => by rw [spec_faText.l0]) (ifn (by omega) ?_)
    rw [List.take_length]; exact now
  induction n with
  | zero =>
    intro i h1 h2
    obtain rfl : i = l.length := by omega
    exact stop
  | succ n ih =>
    intro i h1 h2
    by_cases hi : i < l.length
    · have hjb := join_bd l hf i
      have hnext := ih (i + 1) (by omega) (by omega)
      have hw : wrap64 ((i : Int) + 1) = ((i + 1 : Nat) : Int) := by rw [w64 _ (by omega)]; omega
      rw [items_take l i hi] at hnext
      have hr : rd_T37 l (i : Int) = l[i] := rdK_get l i hi
      refine Ev.step (f := fun k => _) (fun k => by rw [spec_faText.l0]) (ifp (by omega) (ifp (by omega) (ifp (by omega) ?_)))
      rw [hr, lit59]
      by_cases h0 : i = 0
      · subst h0
        refine ifn (by omega) (faText_j1 l hf 0 hi _ _ (by omega) ?_)
        rw [hw]
        have e : Lib.join (items (l.take 0)) [59] ++ item l[0] = Lib.join (items (l.take 0) ++ [item l[0]]) [59] := by
          rw [List.take_zero]
          show Lib.join [] [59] ++ _ = Lib.join ([] ++ [item l[0]]) [59]
          rw [List.nil_append, Lib.join_one, Lib.join_nil, List.nil_append]
        rw [e]
        exact hnext
      · refine ifp (by omega) (ifp (by rw [mk_size]; omega) ?_)
        rw [mk_app]
        refine faText_j1 l hf i hi _ _ (by simp; omega) ?_
        rw [hw]
        have hne : items (l.take i) ≠ [] := by
          intro e
          have := congrArg List.length e
          unfold items at this
          rw [List.length_map, List.length_take, List.length_nil] at this
          omega
        rw [join_snoc _ _ _ hne] at hnext
        exact hnext
    · obtain rfl : i = l.length := by omega
      exact stop
theorem faText (l : List Kn) (hf : Fam l) : Ev (fun k => spec_faText.f k l) (mk (Lib.join (items l) [59])) := by
  have := faText_l l hf _ 0 (Nat.zero_le _) (Nat.le_refl _)
  exact this
theorem FamilyText_both (l : List Kn) (hl : l.length ≤ 1048576) : ∃ v : ByteArray × Bool, Ev (fun k => spec_FamilyText.f k l) v ∧ Ev (fun k => impl_FamilyText.f k l) v := by
  unfold spec_FamilyText.f impl_FamilyText.f
  cases hc : good l with
  | false => exact ⟨(⟨#[]⟩, false), Ev.bind (evEq (faGood l (by omega)) hc) (ifn (by simp) now), Ev.bind (evEq (isFamily l (by omega)) hc) (ifn (by simp) now)⟩
  | true =>
    have hf : Fam l := (good_iff l).1 hc
    exact ⟨(mk (Lib.join (items l) [59]), true), Ev.bind (evEq (faGood l (by omega)) hc) (ifp rfl (Ev.bind (faText l hf) now)), Ev.bind (evEq (isFamily l (by omega)) hc) (ifp rfl (Ev.bind (familyText l hf) now))⟩
theorem FnExactFamilyText : laws_FnExactFamilyText.Pure := by
  intro l hl hb _
  refine Ev.rounds ?_
  unfold laws_FnExactFamilyText.f
  refine call (szKinS l (by omega)) ?_
  by_cases hs : l.length ≤ 1048576
  · have hl' : l.length ≤ 1099511627776 := by omega
    have hcl : (conv l).length ≤ 1048576 := by rw [conv_length]; exact hs
    have hc' : (conv l).length ≤ 1099511627776 := by omega
    rw [if_pos hs]
    refine ifn (by omega) ?_
    obtain ⟨v, e1, e2⟩ := FamilyText_both (conv l) hcl
    refine Ev.bind (toKinS l hl') (Ev.bind e1 (Ev.bind (toKinS l hl') (Ev.bind e2 (ifp rfl ?_))))
    refine Ev.step (f := fun k => _) (fun k => by rw [laws_FnExactFamilyText.j0]) (ifn (by simp) ?_)
    exact Ev.bind (toKinS l hl') (Ev.bind (eqKinS (conv l) hc') (ifp rfl now))
  · rw [if_neg hs]
    exact ifp (by omega) now
end Go.Proofs.YtllihaahppelhaaDoor.Pure
