import Derived.Test.YtlkbphhmahipdaaG0
import Derived.Test.YtlkbphhmahipdaaG1
import Derived.Test.YtlkbphhmahipdaaG2
import Derived.Test.YtlkbphhmahipdaaG3
import Derived.Test.YtlkbphhmahipdaaG4
import Derived.Test.YtlkbphhmahipdaaG5
import Derived.Test.YtlkbphhmahipdaaG6
import Derived.Test.YtlkbphhmahipdaaPk25
import Derived.Test.YtlkbphhmahipdaaPk42
import Derived.WalkSmall
namespace Go.Proofs.Ytlkbphhmahipdaa.E
open Go.RowKit Go.Proofs.YtlkbphhmahipdaaW.PrintWords
section
variable {α β : Type} {c : Prop} [Decidable c] {A B : Nat -> Option α} {r : α}
theorem ifp (hc : c) (h : Ev A r) : Ev (fun k => if c then A k else B k) r := h.congr fun _ => if_pos hc
theorem ifn (hc : ¬ c) (h : Ev B r) : Ev (fun k => if c then A k else B k) r := h.congr fun _ => if_neg hc
theorem zK7 {f : Option β} {b : β} {F : Nat -> β -> Option α} (hf : f = some b) (h : Ev (fun n => F n b) r) : Ev (fun n => f.bind (F n)) r := by subst hf; exact h
theorem bs {α β : Type _} (a : α) (f : α -> Option β) : (some a).bind f = f a := rfl
theorem dt {p : Prop} [Decidable p] (h : p) : decide p = true := decide_eq_true h
theorem df {p : Prop} [Decidable p] (h : ¬ p) : decide p = false := decide_eq_false h
theorem st {α : Type} {g f : Nat -> Option α} {r : α} (h : ∀ k, g (k + 1) = f k) (k : Ev f r) : Ev g r := Ev.step h k
theorem now : Ev (fun _ => some r) r := Ev.now r
theorem zK4 {r' : α} (h : Ev A r) (e : r = r') : Ev A r' := e ▸ h
end
theorem w64 (x : Int) (h : x.natAbs <= 9223372036854775807) : wrap64 x = x := by unfold wrap64; omega
theorem zK3 (x y : Int) (A B : Nat) (hx : x.natAbs <= A) (hy : y.natAbs <= B) : (x * y).natAbs <= A * B := by rw [Int.natAbs_mul]; exact Nat.mul_le_mul hx hy
end Go.Proofs.Ytlkbphhmahipdaa.E
namespace Go.Proofs.Ytlkbphhmahipdaa.Pr
open Go.RowKit Go.Proofs.Ytlkbphhmahipdaa.P Go.Proofs.YtlkbphhmahipdaaW.PrintWords Go.Proofs.YtlkbphhmahipdaaW.PrintMore Go.Proofs.Ytlkbphhmahipdaa.E
open spec_taLimits (lims)
open impl_isTrue (has_ lft)
open impl_left (pairs)
open laws_FnTalksKnow (j3 j4 j5 j6 j9 j10 j12 l2 l3)
open impl_KnownAfter (pair)
open Kn (bestT rests alt)
theorem zA5 (a : ByteArray) : spec_taWho.f a = impl_isWho.f a := rfl
theorem zD5 (talk : ByteArray) (m : Nat) (hm : talk.size = 2 * m) (hs : m <= 12) (n : Nat) : ∀ j : Nat, j <= m -> m - j <= n -> Ev (fun k => spec_taTalk.l0 k talk (2 * (j : Int))) (((List.range m).drop j).all (impl_isTalk.one talk)) := by
 induction n with
 | zero =>
  intro j h1 h2
  obtain rfl : j = m := by omega
  exact st (fun k => by rw [spec_taTalk.l0]) (ifn (by omega) (zK4 now (by rw [List.drop_eq_nil_of_le (by simp)]; rfl)))
 | succ n ih =>
  intro j h1 h2
  by_cases hj : j < m
  ·have hw := impl_isTalk.who talk (2 * j) (by omega)
   have e1 : wrap64 (2 * (j : Int) + 1) = 2 * (j : Int) + 1 := by unfold wrap64; omega
   have e2 : wrap64 (2 * (j : Int) + 2) = 2 * ((j + 1 : Nat) : Int) := by unfold wrap64; omega
   have e3 : (2 * (j : Int)).toNat = 2 * j := by omega
   have e4 : (2 * (j : Int) + 1).toNat = 2 * j + 1 := by omega
   have hd : (List.range m).drop j = j :: (List.range m).drop (j + 1) := by rw [List.drop_eq_getElem_cons (by simpa using hj)]; simp
   have e5 : ((2 * j : Nat) : Int) = 2 * (j : Int) := by omega
   rw [e5] at hw
   rw [hd, List.all_cons]
   have ihn := ih (j + 1) (by omega) (by omega)
   refine st (fun k => by rw [spec_taTalk.l0]) (ifp (by omega) (ifp (by omega) ?_))
   rw [e1, e2, e3, e4]
   refine ifp (by omega) (ifp (by omega) (zK7 (b := _) ((zA5 _).trans hw) ?_))
   generalize ((List.range m).drop (j + 1)).all (impl_isTalk.one talk) = r at ihn
   unfold impl_isTalk.one
   by_cases hb : (decide (bt talk (2 * (j : Int)) = 115) || decide (bt talk (2 * (j : Int)) = 112)) = true
   ·rw [hb]
    refine ifp rfl (ifp (by omega) (ifp (by omega) ?_))
    by_cases c1 : bt talk (2 * (j : Int) + 1) = 45
    ·exact ifp c1 (zK4 ihn (by simp [c1]))
    ·refine ifn c1 ?_
     by_cases c2 : bt talk (2 * (j : Int) + 1) = 43
     ·exact ifp c2 (zK4 ihn (by simp [c2]))
     ·refine ifn c2 ?_
      by_cases c3 : bt talk (2 * (j : Int) + 1) = 33
      ·exact ifp c3 (zK4 ihn (by simp [c3]))
      ·exact ifn c3 (zK4 now (by simp [c1, c2, c3]))
   ·rw [Bool.not_eq_true] at hb
    rw [hb]
    exact ifn (by simp) (zK4 now (by simp))
  ·obtain rfl : j = m := by omega
   exact st (fun k => by rw [spec_taTalk.l0]) (ifn (by omega) (zK4 now (by rw [List.drop_eq_nil_of_le (by simp)]; rfl)))
theorem zI0 (talk : ByteArray) (h : talk.size <= 1048576) : Ev (fun k => spec_taTalk.f k talk) (impl_isTalk.ok talk) := by
 unfold spec_taTalk.f
 by_cases h1 : talk.size % 2 = 0
 ·refine ifn (by omega) ?_
  by_cases h2 : talk.size <= 24
  ·have hl := zD5 talk (talk.size / 2) (by omega) (by omega) _ 0 (Nat.zero_le _) (Nat.le_refl _)
   refine st (fun k => by rw [spec_taTalk.j0]) (ifn (by simp; omega) ?_)
   refine zK4 hl ?_
   simp [impl_isTalk.ok, h1, h2]
  ·refine st (fun k => by rw [spec_taTalk.j0]) (ifp (by simp; omega) (zK4 now ?_))
   simp [impl_isTalk.ok, h2]
 ·refine ifp (by omega) (st (fun k => by rw [spec_taTalk.j0]) (ifp rfl (zK4 now ?_)))
  simp [impl_isTalk.ok, h1]
def pr (a b : Int) : Bool := decide ((1 <= a /\ a <= b) /\ b <= 40)
theorem zK8 (a lo hi : Int) : spec_l1In.f a lo hi = some (decide (lo <= a /\ a <= hi)) := by
 simp only [spec_l1In.f]
 by_cases h1 : lo <= a
 ·rw [if_pos h1]; simp [h1]
 ·rw [if_neg h1]; simp [h1]
theorem zC1 (a lo hi : Int) : impl_between.f a lo hi = some (decide (lo <= a /\ a <= hi)) := zK8 a lo hi
theorem zC9 (a b : Int) : spec_taPair.f 40 a b = some (pr a b) := by
 unfold spec_taPair.f spec_taLimit.f
 simp only [zK8, bs]
 unfold pr
 by_cases h1 : 1 <= b /\ b <= 40
 ·by_cases h2 : 1 <= a /\ a <= b
  ·simp [h1, h2]
  ·simp [h1]
 ·have : ¬ ((1 <= a /\ a <= b) /\ b <= 40) := by omega
  simp only [h1, this]
  rfl
theorem zD1 (a b : Int) : impl_isPair.f 40 a b = some (pr a b) := by
 unfold impl_isPair.f impl_isMost.f
 simp only [zC1, bs]
 unfold pr
 rw [if_pos (by decide)]
 by_cases h2 : 1 <= a /\ a <= b
 ·rw [if_pos (by simpa using h2)]
  by_cases h1 : b <= 40
  ·rw [dt (show 1 <= b /\ b <= 40 by omega), dt ⟨h2, h1⟩]
  ·rw [df (show ¬ (1 <= b /\ b <= 40) by omega), df (fun h => h1 h.2)]
 ·rw [if_neg (by simpa using h2), df (fun h => h2 h.1)]
theorem zD0 (a b : Int) (talk : ByteArray) (ht : impl_isTalk.ok talk = true) (n : Nat) : ∀ q : Nat, 2 <= q -> b <= (q : Int) -> q <= 41 -> 41 - q <= n -> Ev (fun k => impl_LimitsOf.l0 k a b talk (lims a b talk q) (q : Int)) (lims a b talk 41, true) := by
 induction n with
 | zero =>
  intro q h1 h2 h3 h4
  obtain rfl : q = 41 := by omega
  exact st (fun k => by rw [impl_LimitsOf.l0]) (ifn (by omega) now)
 | succ n ih =>
  intro q h1 h2 h3 h4
  by_cases hq : q <= 40
  ·have hf : impl_isTrue.f (q : Int) a b talk = some (has_ (lft (q : Int) talk) a b) := by unfold impl_isTrue.f; rw [if_pos ⟨by omega, ht⟩]
   have hl := spec_taLimits.lims_len a b talk q
   have ihn := ih (q + 1) (by omega) (by omega) (by omega) (by omega)
   have e1 : wrap64 ((q : Int) + 1) = ((q + 1 : Nat) : Int) := by unfold wrap64; omega
   refine st (fun k => by rw [impl_LimitsOf.l0]) (ifp (by omega) (zK7 hf ?_))
   rw [e1]
   by_cases hb : has_ (lft (q : Int) talk) a b = true
   ·rw [spec_taLimits.lims_yes a b talk q h1 h2 hb] at ihn
    exact ifp hb (ifp (by omega) ihn)
   ·rw [spec_taLimits.lims_no a b talk q (by simpa using hb)] at ihn
    exact ifn hb ihn
  ·obtain rfl : q = 41 := by omega
   exact st (fun k => by rw [impl_LimitsOf.l0]) (ifn (by omega) now)
def zK1 (a b : Int) (talk : ByteArray) : List Int × Bool := if pr a b = true /\ impl_isTalk.ok talk = true then (lims a b talk 41, true) else ([], false)
theorem zE7 (a b : Int) (talk : ByteArray) : (zK1 a b talk).1.length <= 41 := by
 unfold zK1
 split
 ·exact spec_taLimits.lims_len a b talk 41
 ·exact Nat.zero_le _
theorem zD2 (a b : Int) (talk : ByteArray) (hs : talk.size <= 1048576) : Ev (fun k => spec_LimitsOf.f k a b talk) (zK1 a b talk) := by
 unfold spec_LimitsOf.f zK1
 refine zK7 (zC9 a b) ?_
 by_cases hp : pr a b = true
 ·refine ifp hp (Ev.bind (zI0 talk hs) ?_)
  by_cases ht : impl_isTalk.ok talk = true
  ·refine zK4 (r := (lims a b talk 41, true)) ?_ (if_pos ⟨hp, ht⟩).symm
   have hb : 1 <= b /\ b <= 40 := by unfold pr at hp; simp only [decide_eq_true_eq] at hp; omega
   have hf : spec_taLimits.f a b talk = some (lims a b talk 41) := by unfold spec_taLimits.f; rw [if_pos ⟨hb, ht⟩]
   exact ifp ht (zK7 hf now)
  ·exact zK4 (r := ([], false)) (ifn ht now) (if_neg (fun h => ht h.2)).symm
 ·exact zK4 (r := ([], false)) (ifn hp now) (if_neg (fun h => hp h.1)).symm
theorem zD9 (a b : Int) (talk : ByteArray) (hs : talk.size <= 1048576) : Ev (fun k => impl_LimitsOf.f k a b talk) (zK1 a b talk) := by
 unfold impl_LimitsOf.f zK1
 refine zK7 (zD1 a b) ?_
 by_cases hp : pr a b = true
 ·have hf : impl_isTalk.f talk = some (impl_isTalk.ok talk) := by unfold impl_isTalk.f; rw [if_pos hs]
  refine ifp hp (zK7 hf ?_)
  by_cases ht : impl_isTalk.ok talk = true
  ·refine zK4 (r := (lims a b talk 41, true)) ?_ (if_pos ⟨hp, ht⟩).symm
   rw [ht]
   have hb : (1 <= a /\ a <= b) /\ b <= 40 := by unfold pr at hp; simpa using hp
   refine st (fun k => by rw [impl_LimitsOf.j0]) (ifn (by simp) ?_)
   obtain ⟨q, hq⟩ : ∃ q : Nat, mx b 2 = (q : Int) /\ 2 <= q /\ b <= (q : Int) /\ q <= 40 /\ (q : Int) <= max 2 b := ⟨(mx b 2).toNat, by unfold mx; split <;> omega⟩
   rw [hq.1, ← spec_taLimits.lims_nil a b talk q hq.2.2.2.2]
   exact zD0 a b talk ht _ q hq.2.1 hq.2.2.1 (by omega) (Nat.le_refl _)
  ·refine zK4 (r := ([], false)) ?_ (if_neg (fun h => ht h.2)).symm
   rw [Bool.not_eq_true] at ht
   rw [ht]
   exact st (fun k => by rw [impl_LimitsOf.j0]) (ifp (by simp) now)
 ·refine zK4 (r := ([], false)) ?_ (if_neg (fun h => hp h.1)).symm
  exact ifn hp (st (fun k => by rw [impl_LimitsOf.j0]) (ifp rfl now))
theorem rdI (l : List Int) (i : Nat) (h : i < l.length) : rd l (i : Int) = l[i] := by simp [rd, List.getD_eq_getElem?_getD, List.getElem?_eq_getElem h]
theorem rdL (l : List (List Int)) (i : Nat) (h : i < l.length) : rd_L1 l (i : Int) = l[i] := by simp [rd_L1, List.getD_eq_getElem?_getD, List.getElem?_eq_getElem h]
theorem zF3 (l : List Int) (hl : l.length <= 1048576) (n : Nat) : ∀ i : Nat, i <= l.length -> l.length - i <= n -> Ev (fun k => laws_gSame.l0 k l l (l.length : Int) (i : Int)) true := by
 induction n with
 | zero =>
  intro i h1 h2
  exact st (fun k => by rw [laws_gSame.l0]) (ifn (by omega) now)
 | succ n ih =>
  intro i h1 h2
  by_cases hi : i < l.length
  ·refine st (fun k => by rw [laws_gSame.l0]) (ifp (by omega) (ifp (by omega) (ifp (by omega) (ifp (by omega) (ifp rfl ?_)))))
   rw [w64 _ (by omega)]
   exact ih (i + 1) (by omega) (by omega)
  ·exact st (fun k => by rw [laws_gSame.l0]) (ifn (by omega) now)
theorem zI3 (l : List Int) (hl : l.length <= 1048576) : Ev (fun k => laws_gSame.f k l l) true := by
 unfold laws_gSame.f
 exact ifp rfl (zF3 l hl _ 0 (by omega) (Nat.le_refl _))
theorem zE5 (l : List Int) (hl : l.length <= 1048576) (hp : l.Pairwise (· < ·)) (n : Nat) : ∀ i : Nat, 1 <= i -> l.length - i <= n -> i <= l.length + 1 -> Ev (fun k => laws_gRises.l0 k l (i : Int)) true := by
 induction n with
 | zero =>
  intro i h1 h2 h3
  exact st (fun k => by rw [laws_gRises.l0]) (ifn (by omega) now)
 | succ n ih =>
  intro i h1 h2 h3
  by_cases hi : i < l.length
  ·have hlt := List.pairwise_iff_getElem.1 hp (i - 1) i (by omega) hi (by omega)
   have ei : (i : Int) - 1 = ((i - 1 : Nat) : Int) := by omega
   refine st (fun k => by rw [laws_gRises.l0]) (ifp (by omega) ?_)
   rw [w64 ((i : Int) - 1) (by omega), ei]
   refine ifp (by omega) (ifp (by omega) (ifp (by omega) ?_))
   rw [rdI l (i - 1) (by omega), rdI l i hi]
   refine ifn (by omega) ?_
   rw [w64 _ (by omega)]
   exact ih (i + 1) (by omega) (by omega) (by omega)
  ·exact st (fun k => by rw [laws_gRises.l0]) (ifn (by omega) now)
theorem zG5 (l : List Int) (hl : l.length <= 1048576) (hp : l.Pairwise (· < ·)) : Ev (fun k => laws_gRises.f k l) true := by
 unfold laws_gRises.f
 exact zE5 l hl hp l.length 1 (by omega) (by omega) (by omega)
theorem zH9 (l : List Int) (v : Int) (hl : l.length <= 1048576) (n : Nat) : ∀ i : Nat, i <= l.length -> l.length - i <= n -> Ev (fun k => laws_gHas.l0 k v l (l.length : Int) (i : Int)) (decide (v ∈ l.drop i)) := by
 have stop : ∀ i, i = l.length -> Ev (fun k => laws_gHas.l0 k v l (l.length : Int) (i : Int)) (decide (v ∈ l.drop i)) := by
  rintro i rfl
  refine st (fun k => by rw [laws_gHas.l0]) (ifn (by omega) (zK4 now ?_))
  simp
 induction n with
 | zero =>
  intro i h1 h2
  exact stop i (by omega)
 | succ n ih =>
  intro i h1 h2
  by_cases hi : i < l.length
  ·refine st (fun k => by rw [laws_gHas.l0]) (ifp (by omega) (ifp (by omega) (ifp (by omega) ?_)))
   rw [rdI l i hi]
   by_cases h : l[i] = v
   ·refine ifp h (zK4 now ?_)
    rw [List.drop_eq_getElem_cons hi]
    simp [h]
   ·refine ifn h ?_
    rw [w64 _ (by omega)]
    refine zK4 (ih (i + 1) (by omega) (by omega)) ?_
    rw [List.drop_eq_getElem_cons hi]
    have h' : ¬ v = l[i] := fun e => h e.symm
    simp only [List.mem_cons, h', false_or]
  ·exact stop i (by omega)
theorem zK2 (l : List Int) (v : Int) (hl : l.length <= 1048576) : Ev (fun k => laws_gHas.f k l v) (decide (v ∈ l)) := by
 unfold laws_gHas.f
 exact zH9 l v hl _ 0 (by omega) (Nat.le_refl _)
def kOk (n a b : Int) (who : ByteArray) : Bool := pair n a b && Kn.who who
def lOk (n : Int) (who : ByteArray) : Bool := impl_CountNeverKnown.most n && Kn.who who
def vK (n a b : Int) (who : ByteArray) : Int × Bool := if kOk n a b who then (impl_KnownAfter.t n a b who, decide (0 < impl_KnownAfter.t n a b who)) else (0, false)
def vT (n a b : Int) (who : ByteArray) : ByteArray × Bool := if kOk n a b who then (Kn.talk (Kn.sp who) (impl_KnownAfter.t n a b who).toNat, true) else (⟨#[]⟩, false)
def vB (n : Int) (who : ByteArray) : Int × Int × Int × Bool := if lOk n who then (rd (impl_LongestTalk.b n who).1 0, rd (impl_LongestTalk.b n who).1 1, ((impl_LongestTalk.b n who).2 : Int), decide (0 < ((impl_LongestTalk.b n who).2 : Int))) else (0, 0, 0, false)
def vC (n : Int) (who : ByteArray) : Int × Bool := if lOk n who then (impl_CountNeverKnown.n n who, true) else (0, false)
theorem zG4 (n a b : Int) (who : ByteArray) : impl_KnownAfter.f n a b who = some (vK n a b who) := rfl
theorem zH3 (n a b : Int) (who : ByteArray) : impl_TrueTalk.f n a b who = some (vT n a b who) := rfl
theorem zI1 (n a b : Int) (who : ByteArray) : spec_TrueTalk.f n a b who = some (vT n a b who) := rfl
theorem zJ9 (n : Int) (who : ByteArray) : impl_LongestTalk.f n who = some (vB n who) := rfl
theorem zH1 (n : Int) (who : ByteArray) : impl_CountNeverKnown.f n who = some (vC n who) := rfl
theorem zH6 (n a b : Int) (who : ByteArray) : spec_KnownAfter.f n a b who = some (vK n a b who) := by
 unfold spec_KnownAfter.f vK kOk
 rw [spec_TrueTalk.pair, bs]
 cases hp : pair n a b with
 | false => rfl
 | true =>
  rw [if_pos rfl, spec_TrueTalk.who, bs]
  cases hw : Kn.who who with
  | false => rfl
  | true =>
   have e : spec_taKnown.f n a b who = some (impl_KnownAfter.t n a b who) := by
    unfold spec_taKnown.f
    rw [hp, hw]
    rfl
   rw [if_pos rfl, e, bs]
   rfl
theorem zH7 (n : Int) : spec_taLimit.f n = some (impl_CountNeverKnown.most n) := by
 unfold spec_taLimit.f impl_CountNeverKnown.most
 rw [spec_TrueTalk.in_, bs]
section
variable (L : List (List Int)) (T : List Int -> Nat)
def zK9 : List Int := L.map fun x => (T x : Int)
theorem zE1 : (zK9 L T).length = L.length := by simp [zK9]
theorem zF0 (i : Nat) (hi : i < L.length) : rd (zK9 L T) (i : Int) = (T L[i] : Int) := by
 rw [rdI _ i (by rw [zE1]; exact hi)]
 simp [zK9]
abbrev tup : Int × Int × Int × Bool := (rd (bestT T L).1 0, rd (bestT T L).1 1, ((bestT T L).2 : Int), decide (0 < ((bestT T L).2 : Int)))
structure Held (i : Nat) (b v : Int) : Prop where
 val : (bestT T (L.take i)).2 = v.toNat
 pos : 0 <= v
 nil : v = 0 -> b = 0 /\ bestT T (L.take i) = ([0, 0], 0)
 at_ : 0 < v -> ∃ j : Nat, b = (j : Int) /\ ∃ h : j < L.length, (bestT T (L.take i)).1 = L[j]
theorem zF9 (h2 : ∀ x ∈ L, x.length = 2) (hN : L.length <= 1600) (m : Nat) : ∀ (i : Nat) (b v : Int), i <= L.length -> L.length - i <= m -> Held L T i b v →
  Ev (fun k => spec_LongestTalk.l0 k L b v (zK9 L T) ((zK9 L T).length : Int) (i : Int)) (tup L T) := by
 have stop : ∀ (b v : Int), Held L T L.length b v -> Ev (fun k => spec_LongestTalk.l0 k L b v (zK9 L T) ((zK9 L T).length : Int) (L.length : Int)) (tup L T) := by
  intro b v hH
  have h1 := hH.val
  have h5 := hH.pos
  have h3 := hH.nil
  have h4 := hH.at_
  clear hH
  rw [List.take_length] at h1 h3 h4
  refine st (fun k => by rw [spec_LongestTalk.l0]) (ifn (by rw [zE1]; exact Int.lt_irrefl _) ?_)
  by_cases hv : v = 0
  ·obtain ⟨_, e⟩ := h3 hv
   unfold tup
   rw [e]
   exact ifp hv now
  ·obtain ⟨j, rfl, hj, e⟩ := h4 (by clear h3 h4; omega)
   clear h3 h4
   refine ifn hv (ifp (by omega) (ifp (by omega) ?_))
   have h2 : (L[j]).length = 2 := h2 _ (List.getElem_mem hj)
   have er : rd_L1 L (j : Int) = L[j] := rdL _ j hj
   rw [er]
   refine ifp (by omega) (ifp (by omega) (zK4 now ?_))
   unfold tup
   rw [e, h1]
   have : decide (0 < ((v.toNat : Nat) : Int)) = true := dt (by omega)
   rw [this, Int.toNat_of_nonneg (by omega)]
 induction m with
 | zero =>
  intro i b v h1 h2 h3
  obtain rfl : i = L.length := by clear h3; omega
  exact stop b v h3
 | succ m ih =>
  intro i b v h1 h2 h3
  by_cases hi : i < L.length
  ·refine st (fun k => by rw [spec_LongestTalk.l0]) (ifp (by rw [zE1]; omega) (ifp (by omega) (ifp (by rw [zE1]; omega) ?_)))
   rw [zF0 L T i hi, w64 _ (by omega)]
   have es : bestT T (L.take (i + 1)) = Kn.stepT T (bestT T (L.take i)) L[i] := by
    rw [List.take_succ_eq_append_getElem hi, Kn.bestT_snoc]
   have hv := h3.val
   have hp := h3.pos
   by_cases hg : (T L[i] : Int) > v
   ·have e2 : bestT T (L.take (i + 1)) = (L[i], T L[i]) := by
     rw [es]; unfold Kn.stepT; rw [if_pos (by omega)]
    refine ifp hg (ih (i + 1) _ _ (by omega) (by omega) ⟨?_, ?_, ?_, ?_⟩)
    ·rw [e2]; exact (Int.toNat_natCast _).symm
    ·omega
    ·intro h; omega
    ·intro _; exact ⟨i, rfl, hi, by rw [e2]⟩
   ·have e2 : bestT T (L.take (i + 1)) = bestT T (L.take i) := by
     rw [es]; unfold Kn.stepT; rw [if_neg (by omega)]
    refine ifn hg (ih (i + 1) _ _ (by omega) (by omega) ⟨?_, hp, ?_, ?_⟩)
    ·rw [e2]; exact hv
    ·rw [e2]; exact h3.nil
    ·rw [e2]; exact h3.at_
  ·obtain rfl : i = L.length := by clear h3; omega
   exact stop b v h3
theorem zF4 (hN : L.length <= 1600) (m : Nat) : ∀ (i c : Nat), i <= L.length -> L.length - i <= m -> c <= i →
  Ev (fun k => spec_CountNeverKnown.l0 k (c : Int) (zK9 L T) ((zK9 L T).length : Int) (i : Int)) (((c + (L.drop i).countP (fun x => decide (T x = 0)) : Nat) : Int), true) := by
 have stop : ∀ c : Nat, Ev (fun k => spec_CountNeverKnown.l0 k (c : Int) (zK9 L T) ((zK9 L T).length : Int) (L.length : Int)) (((c + (L.drop L.length).countP (fun x => decide (T x = 0)) : Nat) : Int), true) := by
  intro c
  refine st (fun k => by rw [spec_CountNeverKnown.l0]) (ifn (by rw [zE1]; exact Int.lt_irrefl _) (zK4 now ?_))
  rw [List.drop_length]
  rfl
 induction m with
 | zero =>
  intro i c h1 h2 h3
  obtain rfl : i = L.length := by omega
  exact stop c
 | succ m ih =>
  intro i c h1 h2 h3
  by_cases hi : i < L.length
  ·refine st (fun k => by rw [spec_CountNeverKnown.l0]) (ifp (by rw [zE1]; omega) (ifp (by omega) (ifp (by rw [zE1]; omega) ?_)))
   rw [zF0 L T i hi, w64 ((i : Int) + 1) (by omega), w64 ((c : Int) + 1) (by omega), List.drop_eq_getElem_cons hi, List.countP_cons]
   by_cases hz : T L[i] = 0
   ·refine ifp (by omega) (zK4 (ih (i + 1) (c + 1) (by omega) (by omega) (by omega)) ?_)
    simp [hz]
    omega
   ·refine ifn (by omega) (zK4 (ih (i + 1) c (by omega) (by omega) (by omega)) ?_)
    simp [hz]
  ·obtain rfl : i = L.length := by omega
   exact stop c
end
section
variable (n : Int) (who : ByteArray)
def prs : List (List Int) := pairs n.toNat
def tms (x : List Int) : Nat := Kn.kt (pairs n.toNat) (Kn.sp who) x
theorem zG9 (h : impl_CountNeverKnown.most n = true) : (prs n).length <= 1600 := by
 have := of_decide_eq_true h
 exact impl_left.pairs_le _ (by omega)
theorem zF5 : ∀ x ∈ prs n, x.length = 2 := impl_left.two n.toNat
theorem zF2 (h : lOk n who = true) : spec_taTimes.f n who = some (zK9 (prs n) (tms n who)) := by
 unfold spec_taTimes.f
 exact if_pos h
theorem zF6 (h : lOk n who = true) : spec_taPairs.f n = some (prs n) := by
 unfold lOk at h
 simp only [Bool.and_eq_true] at h
 have := of_decide_eq_true h.1
 unfold spec_taPairs.f
 exact if_pos (by omega)
theorem zE9 : impl_LongestTalk.b n who = bestT (tms n who) (prs n) := rfl
theorem zI8 : Ev (fun k => spec_LongestTalk.f k n who) (vB n who) := by
 unfold spec_LongestTalk.f
 refine zK7 (zH7 n) ?_
 cases hm : impl_CountNeverKnown.most n with
 | false =>
  have e : vB n who = (0, 0, 0, false) := by unfold vB lOk; rw [hm]; rfl
  rw [e]
  exact ifn (by simp) (st (fun k => by rw [spec_LongestTalk.j0]) (ifp rfl now))
 | true =>
  refine ifp rfl (zK7 (spec_TrueTalk.who who) ?_)
  cases hw : Kn.who who with
  | false =>
   have e : vB n who = (0, 0, 0, false) := by unfold vB lOk; rw [hm, hw]; rfl
   rw [e]
   exact st (fun k => by rw [spec_LongestTalk.j0]) (ifp (by decide) now)
  | true =>
   have ho : lOk n who = true := by unfold lOk; rw [hm, hw]; rfl
   have e : vB n who = tup (prs n) (tms n who) := by
    unfold vB
    rw [ho, zE9]
    rfl
   rw [e]
   refine st (fun k => by rw [spec_LongestTalk.j0]) (ifn (by simp) (zK7 (zF6 n who ho) (zK7 (zF2 n who ho) ?_)))
   have := zF9 (prs n) (tms n who) (zF5 n) (zG9 n hm) _ 0 0 0 (Nat.zero_le _) (Nat.le_refl _) ⟨rfl, by omega, fun _ => ⟨rfl, rfl⟩, fun h => absurd h (by omega)⟩
   exact this
theorem zH8 : Ev (fun k => spec_CountNeverKnown.f k n who) (vC n who) := by
 unfold spec_CountNeverKnown.f
 refine zK7 (zH7 n) ?_
 cases hm : impl_CountNeverKnown.most n with
 | false =>
  have e : vC n who = (0, false) := by unfold vC lOk; rw [hm]; rfl
  rw [e]
  exact ifn (by simp) (st (fun k => by rw [spec_CountNeverKnown.j0]) (ifp rfl now))
 | true =>
  refine ifp rfl (zK7 (spec_TrueTalk.who who) ?_)
  cases hw : Kn.who who with
  | false =>
   have e : vC n who = (0, false) := by unfold vC lOk; rw [hm, hw]; rfl
   rw [e]
   exact st (fun k => by rw [spec_CountNeverKnown.j0]) (ifp (by decide) now)
  | true =>
   have ho : lOk n who = true := by unfold lOk; rw [hm, hw]; rfl
   refine st (fun k => by rw [spec_CountNeverKnown.j0]) (ifn (by simp) (zK7 (zF2 n who ho) ?_))
   have := zF4 (prs n) (tms n who) (zG9 n hm) _ 0 0 (Nat.zero_le _) (Nat.le_refl _) (Nat.le_refl _)
   refine zK4 this ?_
   unfold vC
   rw [ho, List.drop_zero, Nat.zero_add]
   rfl
end
def vI (n a b : Int) (talk : ByteArray) : Bool × Bool := if pair n a b && impl_isTalk.ok talk then (has_ (lft n talk) a b, true) else (false, false)
theorem zE6 (talk : ByteArray) (h : talk.size <= 1048576) : impl_isTalk.f talk = some (impl_isTalk.ok talk) := by unfold impl_isTalk.f; exact if_pos h
theorem zG8 (talk : ByteArray) (h : talk.size <= 1048576) : impl_IsTalk.f talk = some (impl_isTalk.ok talk) := by unfold impl_IsTalk.f; rw [zE6 talk h]; rfl
theorem iIs (n a b : Int) (talk : ByteArray) (h : talk.size <= 1048576) : impl_IsTrueTalk.f n a b talk = some (vI n a b talk) := by
 unfold impl_IsTrueTalk.f vI
 rw [impl_isPair.told, bs]
 cases hp : pair n a b with
 | false => rfl
 | true =>
  rw [if_pos rfl, zE6 talk h, bs]
  cases ht : impl_isTalk.ok talk with
  | false => rfl
  | true =>
   have hn := of_decide_eq_true hp
   have e : impl_isTrue.f n a b talk = some (has_ (lft n talk) a b) := by
    unfold impl_isTrue.f
    exact if_pos ⟨by omega, ht⟩
   rw [if_pos rfl, e]
   rfl
theorem zD7 (n : Nat) (sp : Nat -> Bool) (wt : Nat -> Int) : ∀ j, ∀ x ∈ impl_left.rest n sp wt j, x ∈ pairs n
 | 0, _, h => h
 | j + 1, x, h => zD7 n sp wt j x (List.mem_filter.1 h).1
theorem zD6 (n : Nat) (sp : Nat -> Bool) (wt : Nat -> Int) : ∀ j, (impl_left.rest n sp wt j).length <= (pairs n).length
 | 0 => Nat.le_refl _
 | j + 1 => Nat.le_trans (List.length_filter_le _ _) (zD6 n sp wt j)
theorem sIs (n a b : Int) (talk : ByteArray) (h : talk.size <= 1048576) : Ev (fun k => spec_IsTrueTalk.f k n a b talk) (vI n a b talk) := by
 unfold spec_IsTrueTalk.f
 refine zK7 (spec_TrueTalk.pair n a b) ?_
 cases hp : pair n a b with
 | false =>
  have e : vI n a b talk = (false, false) := by unfold vI; rw [hp]; rfl
  rw [e]
  exact ifn (by simp) (st (fun k => by rw [spec_IsTrueTalk.j0]) (ifp rfl now))
 | true =>
  refine ifp rfl (Ev.bind (zI0 talk h) ?_)
  cases ht : impl_isTalk.ok talk with
  | false =>
   have e : vI n a b talk = (false, false) := by unfold vI; rw [hp, ht]; rfl
   rw [e]
   exact st (fun k => by rw [spec_IsTrueTalk.j0]) (ifp (by decide) now)
  | true =>
   have hn := of_decide_eq_true hp
   have e : vI n a b talk = (has_ (lft n talk) a b, true) := by unfold vI; rw [hp, ht]; rfl
   have el : spec_taLeft.f n talk = some (lft n talk) := by
    unfold spec_taLeft.f
    exact if_pos ⟨by omega, ht⟩
   rw [e]
   refine st (fun k => by rw [spec_IsTrueTalk.j0]) (ifn (by simp) (zK7 el (Ev.bind (f := fun _ t => some (t, true)) (a := has_ (lft n talk) a b) ?_ now)))
   have h1 := impl_left.pairs_le n.toNat (by omega)
   have h2 := zD6 n.toNat (impl_isTrue.sp talk) (impl_isTrue.wt talk) (talk.size / 2)
   have h3 : ∀ x ∈ lft n talk, x.length = 2 := fun x hx => impl_left.two _ _ (zD7 _ _ _ _ x hx)
   refine ⟨(lft n talk).length + 1, fun k hk => ?_⟩
   obtain ⟨d, rfl⟩ : ∃ d, k = d + 1 := ⟨k - 1, by omega⟩
   unfold spec_taHas.f
   exact spec_taHas.l0_told _ (by unfold lft; omega) h3 a b d 0 (Nat.zero_le _) (by omega)
def vM (a b : Int) (talk : ByteArray) : Int × Bool := if (zK1 a b talk).2 = true then (if (zK1 a b talk).1.length = 0 then ((0 : Int), false) else (rd (zK1 a b talk).1 0, true)) else (0, false)
theorem zA6 (xs : List Int) : Ev (fun _ => (if (xs.length : Int) = 0 then (some ((0 : Int), false)) else (if 0 < (xs.length : Int) then (some (rd xs 0, true)) else (none)))) (if xs.length = 0 then (0, false) else (rd xs 0, true)) := by
 by_cases h : xs.length = 0
 ·exact zK4 (r := (0, false)) (ifp (by omega) now) (if_pos h).symm
 ·exact zK4 (r := (rd xs 0, true)) (ifn (by omega) (ifp (by omega) now)) (if_neg h).symm
theorem zI2 (a b : Int) (talk : ByteArray) (hs : talk.size <= 1048576) : Ev (fun k => impl_LeastLimit.f k a b talk) (vM a b talk) := by
 unfold impl_LeastLimit.f vM
 refine Ev.bind (zD9 a b talk hs) ?_
 generalize zK1 a b talk = v
 by_cases h : v.2 = true
 ·exact zK4 (ifp h (zA6 v.1)) (if_pos h).symm
 ·exact zK4 (r := (0, false)) (ifn h now) (if_neg h).symm
theorem zH4 (a b : Int) (talk : ByteArray) (hs : talk.size <= 1048576) : Ev (fun k => spec_LeastLimit.f k a b talk) (vM a b talk) := by
 unfold spec_LeastLimit.f vM
 refine zK7 (zC9 a b) ?_
 by_cases hp : pr a b = true
 ·refine ifp hp (Ev.bind (zI0 talk hs) ?_)
  by_cases ht : impl_isTalk.ok talk = true
  ·have hb : 1 <= b /\ b <= 40 := by unfold pr at hp; simp only [decide_eq_true_eq] at hp; omega
   have hf : spec_taLimits.f a b talk = some (lims a b talk 41) := by unfold spec_taLimits.f; rw [if_pos ⟨hb, ht⟩]
   have ev : zK1 a b talk = (lims a b talk 41, true) := if_pos ⟨hp, ht⟩
   rw [ev, ht]
   refine st (fun k => by rw [spec_LeastLimit.j0]) (ifn (by simp) (zK7 hf ?_))
   exact zK4 (zA6 _) (if_pos rfl).symm
  ·have ev : zK1 a b talk = ([], false) := if_neg (fun h => ht h.2)
   rw [Bool.not_eq_true] at ht
   rw [ev, ht]
   exact zK4 (r := ((0 : Int), false)) (st (fun k => by rw [spec_LeastLimit.j0]) (ifp (by simp) now)) rfl
 ·have ev : zK1 a b talk = ([], false) := if_neg (fun h => hp h.1)
  rw [ev]
  exact zK4 (r := ((0 : Int), false)) (ifn hp (st (fun k => by rw [spec_LeastLimit.j0]) (ifp rfl now))) rfl
def zJ6 (x y : List Int) : Prop := rd x 0 < rd y 0 ∨ rd x 0 = rd y 0 /\ rd x 1 < rd y 1
theorem zC4 (q : Int -> Int -> Bool) (a m : Nat) : (impl_pairsThat.row q a m).Pairwise zJ6 := by
 unfold impl_pairsThat.row
 rw [List.pairwise_map]
 refine ((List.pairwise_lt_range (n := m)).filter _).imp ?_
 intro i j h
 refine .inr ⟨rfl, ?_⟩
 show (a : Int) + (i : Int) < (a : Int) + (j : Int)
 omega
theorem zF8 (q : Int -> Int -> Bool) (n m : Nat) : ∀ x ∈ impl_pairsThat.all q n m, rd x 0 <= (m : Int) := by
 intro x hx
 unfold impl_pairsThat.all at hx
 obtain ⟨i, hi, h⟩ := List.mem_flatMap.1 hx
 have hi := List.mem_range.1 hi
 obtain ⟨j, hj, rfl⟩ := impl_left.row_mem q (i + 1) (n - i) x h
 show ((i + 1 : Nat) : Int) <= (m : Int)
 omega
theorem zB2 (q : Int -> Int -> Bool) (n m : Nat) : (impl_pairsThat.all q n m).Pairwise zJ6 := by
 induction m with
 | zero => simp [impl_pairsThat.all]
 | succ m ih =>
  rw [impl_pairsThat.all_succ, List.pairwise_append]
  refine ⟨ih, zC4 _ _ _, fun x hx y hy => .inl ?_⟩
  have h1 := zF8 q n m x hx
  obtain ⟨j, hj, rfl⟩ := impl_left.row_mem q (m + 1) (n - m) y hy
  show rd x 0 < ((m + 1 : Nat) : Int)
  omega
theorem zC7 (a m : Nat) : (impl_pairsThat.row (fun _ _ => true) a m).length = m := by
 unfold impl_pairsThat.row
 rw [List.length_map, List.filter_eq_self.2 (fun _ _ => rfl), List.length_range]
theorem zE4 (n : Nat) : ∀ m : Nat, m <= n -> 2 * ((impl_pairsThat.all (fun _ _ => true) n m).length : Int) = (m : Int) * (2 * (n : Int) - (m : Int) + 1) := by
 intro m
 induction m with
 | zero => intro _; simp [impl_pairsThat.all]
 | succ m ih =>
  intro hm
  have h := ih (by omega)
  rw [impl_pairsThat.all_succ, List.length_append, zC7]
  have e : ((n - m : Nat) : Int) = (n : Int) - (m : Int) := by omega
  push_cast
  rw [e]
  grind
theorem zB3 (n : Nat) : 2 * ((pairs n).length : Int) = (n : Int) * ((n : Int) + 1) := by
 have h := zE4 n n (Nat.le_refl n)
 unfold pairs
 rw [h]
 grind
theorem zB0 (n : Nat) (sp sp' : Nat -> Bool) (wt wt' : Nat -> Int) : ∀ m : Nat, (∀ j, j < m -> sp j = sp' j /\ wt j = wt' j) -> impl_left.rest n sp wt m = impl_left.rest n sp' wt' m := by
 intro m
 induction m with
 | zero => intro _; rfl
 | succ m ih =>
  intro h
  obtain ⟨h1, h2⟩ := h m (by omega)
  show Tk.say (sp m) (wt m) _ = Tk.say (sp' m) (wt' m) _
  rw [h1, h2, ih (fun j hj => h j (by omega))]
theorem zK5 (a b : ByteArray) (i : Nat) (h : i < a.size) : bt (a ++ b) (i : Int) = bt a (i : Int) := by
 have h2 : i < (a ++ b).size := by rw [ByteArray.size_append]; omega
 unfold bt
 simp only [Int.toNat_natCast, h, h2, dif_pos]
 rw [ByteArray.getElem_append_left h]
theorem zK6 (a b : ByteArray) (i : Nat) (h : i < b.size) : bt (a ++ b) ((a.size + i : Nat) : Int) = bt b (i : Int) := by
 have h2 : a.size + i < (a ++ b).size := by rw [ByteArray.size_append]; omega
 unfold bt
 simp only [Int.toNat_natCast, h, h2, dif_pos]
 rw [ByteArray.getElem_append_right (Nat.le_add_right _ _)]
 simp
theorem zC5 (n : Int) : (prs n).Pairwise zJ6 := zB2 _ _ _
theorem zB7 (n : Int) (h : 0 <= n) : 2 * ((prs n).length : Int) = n * (n + 1) := by
 have := zB3 n.toNat
 rw [Int.toNat_of_nonneg h] at this
 exact this
theorem zC8 (s : Bool) : ∀ m j : Nat, j < m -> bt (Kn.tt s m) ((2 * j : Nat) : Int) = (if alt s j = true then 115 else 112) /\ bt (Kn.tt s m) ((2 * j + 1 : Nat) : Int) = 45
 | 0, j, h => by omega
 | m + 1, j, h => by
  have hs := Kn.tt_size s m
  have e : Kn.tt s (m + 1) = Kn.tt s m ++ (Tk.wh (alt s m) ++ ⟨#[45]⟩) := rfl
  rw [e]
  by_cases hj : j < m
  ·rw [zK5 _ _ _ (by omega), zK5 _ _ _ (by omega)]
   exact zC8 s m j hj
  ·obtain rfl : j = m := by omega
   have e0 : 2 * j = (Kn.tt s j).size + 0 := by omega
   have e1 : 2 * j + 1 = (Kn.tt s j).size + 1 := by omega
   have h2 : (Tk.wh (alt s j) ++ (⟨#[45]⟩ : ByteArray)).size = 2 := by rw [ByteArray.size_append, Kn.wh_size]; rfl
   rw [e1, zK6 _ _ _ (by omega), e0, zK6 _ _ _ (by omega)]
   cases alt s j <;> exact ⟨rfl, rfl⟩
def sts (t : Nat) : Nat := if 1 <= t /\ t <= 12 then t else 12
theorem zB5 (s : Bool) (t : Nat) : (Kn.talk s t).size = 2 * sts t := by
 unfold Kn.talk sts
 split
 ·rw [ByteArray.size_append, ByteArray.size_append, Kn.tt_size, Kn.wh_size]
  show 2 * (t - 1) + 1 + 1 = _
  omega
 ·exact Kn.tt_size s 12
theorem zA7 (s : Bool) (t j : Nat) (hj : j < sts t) : bt (Kn.talk s t) ((2 * j : Nat) : Int) = (if alt s j = true then 115 else 112) /\ bt (Kn.talk s t) ((2 * j + 1 : Nat) : Int) = (if j + 1 = t then 43 else 45) := by
 unfold sts at hj
 unfold Kn.talk
 by_cases h : 1 <= t /\ t <= 12
 ·rw [if_pos h] at hj ⊢
  have hs := Kn.tt_size s (t - 1)
  have hw := Kn.wh_size (alt s (t - 1))
  have h1 : (Kn.tt s (t - 1) ++ Tk.wh (alt s (t - 1))).size = 2 * (t - 1) + 1 := by rw [ByteArray.size_append]; omega
  by_cases hj2 : j < t - 1
  ·rw [zK5 _ _ _ (by omega), zK5 _ _ _ (by omega), zK5 _ _ _ (by omega), zK5 _ _ _ (by omega), if_neg (show ¬ j + 1 = t by omega)]
   exact zC8 s (t - 1) j hj2
  ·obtain rfl : t = j + 1 := by omega
   rw [show j + 1 - 1 = j from rfl] at hs hw h1 ⊢
   have e0 : 2 * j = (Kn.tt s j).size + 0 := by omega
   have e1 : 2 * j + 1 = (Kn.tt s j ++ Tk.wh (alt s j)).size + 0 := by omega
   refine ⟨?_, ?_⟩
   ·rw [zK5 _ _ _ (by omega), e0, zK6 _ _ _ (by omega)]
    cases alt s j <;> rfl
   ·rw [e1, zK6 _ _ _ (by decide), if_pos rfl]
    rfl
 ·rw [if_neg h] at hj ⊢
  rw [if_neg (show ¬ j + 1 = t by omega)]
  exact zC8 s 12 j hj
theorem zG1 (t : Nat) : 1 <= sts t /\ sts t <= 12 := by unfold sts; split <;> omega
theorem zF1 (s : Bool) (t : Nat) : impl_isTalk.ok (Kn.talk s t) = true := by
 have hs := zB5 s t
 have hl := zG1 t
 unfold impl_isTalk.ok
 rw [hs, show 2 * sts t / 2 = sts t by omega]
 simp only [Bool.and_eq_true, decide_eq_true_eq]
 refine ⟨⟨by omega, by omega⟩, List.all_eq_true.2 fun j hj => ?_⟩
 obtain ⟨h1, h2⟩ := zA7 s t j (List.mem_range.1 hj)
 push_cast at h1 h2
 unfold impl_isTalk.one
 rw [h1, h2]
 by_cases h : j + 1 = t <;> cases alt s j <;> simp [h]
theorem zA8 (n : Nat) (s : Bool) : ∀ m, impl_left.rest n (alt s) (fun _ => 45) m = rests (pairs n) s m
 | 0 => rfl
 | m + 1 => by
  show Tk.say (alt s m) 45 _ = Tk.say (alt s m) 45 _
  rw [zA8 n s m]
theorem zA3 (xs : List (List Int)) (a b : Int) (h : [a, b] ∈ xs) : has_ xs a b = true := List.any_eq_true.2 ⟨_, h, by simp [rd]⟩
theorem zJ1 (n : Nat) (s : Bool) (x : List Int) (hx : x ∈ pairs n) (j : Nat) (hj : j <= 4000) (h : Kn.kt (pairs n) s x = 0 ∨ j < Kn.kt (pairs n) s x) : x ∈ rests (pairs n) s j := by
 rw [Kn.kt_eq] at h
 rcases h with h | h
 ·have h1 := Kn.fst_in hx h
  exact Kn.rests_down j (4000 - j) x (by rw [show j + (4000 - j) = 4000 by omega]; exact h1)
 ·obtain ⟨q, hq⟩ : ∃ q, Kn.fst (pairs n) s x 4000 = q + 1 := ⟨Kn.fst (pairs n) s x 4000 - 1, by omega⟩
  obtain ⟨h1, h2, _⟩ := Kn.fst_at hx hq
  exact Kn.rests_down j (q - j) x (by rw [show j + (q - j) = q by omega]; exact h2)
theorem zG7 (n : Nat) (s : Bool) (x : List Int) (hx : x ∈ pairs n) (q : Nat) (h : Kn.kt (pairs n) s x = q + 1) : x ∉ rests (pairs n) s (q + 1) := by
 rw [Kn.kt_eq] at h
 exact (Kn.fst_at hx h).2.2
theorem zG0 (A : List (List Int)) (s : Bool) (x : List Int) : ∀ m, Kn.fst A s x m <= m
 | 0 => Nat.le_refl _
 | m + 1 => by
  have ih := zG0 A s x m
  rw [Kn.fst_succ]
  split
  ·omega
  ·split <;> omega
theorem zJ5 (A : List (List Int)) (s : Bool) (x : List Int) : Kn.kt A s x <= 4000 := by
 rw [Kn.kt_eq]
 exact zG0 A s x 4000
theorem zC0 (n : Int) (who : ByteArray) (a b : Int) (h : kOk n a b who = true) : vI n a b (Kn.talk (Kn.sp who) (impl_KnownAfter.t n a b who).toNat) = (true, true) := by
 unfold kOk at h
 simp only [Bool.and_eq_true] at h
 have hp := of_decide_eq_true h.1
 have hm : [a, b] ∈ pairs n.toNat := impl_left.mem_pairs _ _ _ (by omega)
 obtain ⟨t, ht⟩ : ∃ t, t = Kn.kt (pairs n.toNat) (Kn.sp who) [a, b] := ⟨_, rfl⟩
 have et : (impl_KnownAfter.t n a b who).toNat = t := by unfold impl_KnownAfter.t; rw [← ht, Int.toNat_natCast]
 rw [et]
 generalize Kn.sp who = s at ht ⊢
 unfold vI
 rw [h.1, zF1 s t]
 have hs := zB5 s t
 have hl := zG1 t
 have e1 : ∀ j, j < sts t -> impl_isTrue.sp (Kn.talk s t) j = alt s j := fun j hj => by
  have := (zA7 s t j hj).1
  push_cast at this
  unfold impl_isTrue.sp
  rw [this]
  cases alt s j <;> rfl
 have e2 : ∀ j, j < sts t -> impl_isTrue.wt (Kn.talk s t) j = if j + 1 = t then 43 else 45 := fun j hj => by
  have := (zA7 s t j hj).2
  push_cast at this
  unfold impl_isTrue.wt
  rw [this]
 have hin : [a, b] ∈ lft n (Kn.talk s t) := by
  unfold lft
  rw [hs, show 2 * sts t / 2 = sts t by omega]
  by_cases hc : 1 <= t /\ t <= 12
  ·have es : sts t = t := if_pos hc
   obtain ⟨q, rfl⟩ : ∃ q, t = q + 1 := ⟨t - 1, by omega⟩
   rw [es] at e1 e2 ⊢
   show [a, b] ∈ Tk.say (impl_isTrue.sp (Kn.talk s (q + 1)) q) (impl_isTrue.wt (Kn.talk s (q + 1)) q) (impl_left.rest n.toNat (impl_isTrue.sp (Kn.talk s (q + 1))) (impl_isTrue.wt (Kn.talk s (q + 1))) q)
   rw [e1 q (by omega), e2 q (by omega), if_pos rfl, zB0 n.toNat _ (alt s) _ (fun _ => 45) q (fun j hj => ⟨e1 j (by omega), by rw [e2 j (by omega), if_neg (by omega)]⟩), zA8]
   exact (Kn.say_plus _ _ _).2 ⟨zJ1 n.toNat s _ hm q (by omega) (.inr (by omega)), zG7 n.toNat s _ hm q ht.symm⟩
  ·have es : sts t = 12 := if_neg hc
   rw [es] at e1 e2 ⊢
   rw [zB0 n.toNat _ (alt s) _ (fun _ => 45) 12 (fun j hj => ⟨e1 j hj, by rw [e2 j hj, if_neg (by omega)]⟩), zA8]
   exact zJ1 n.toNat s _ hm 12 (by omega) (by omega)
 rw [zA3 _ _ _ hin]
 rfl
theorem zD8 (T : List Int -> Nat) (L : List (List Int)) (h : 0 < (bestT T L).2) : (bestT T L).1 ∈ L := by
 have : ∀ i, i <= L.length -> 0 < (bestT T (L.take i)).2 -> (bestT T (L.take i)).1 ∈ L.take i := by
  intro i
  induction i with
  | zero => intro _ h; rw [List.take_zero] at h; exact absurd h (Nat.lt_irrefl 0)
  | succ i ih =>
   intro hi h
   have hi' : i < L.length := by omega
   rw [List.take_succ_eq_append_getElem hi', Kn.bestT_snoc] at h ⊢
   by_cases hc : (bestT T (L.take i)).2 < T L[i]
   ·unfold Kn.stepT
    rw [if_pos hc]
    exact List.mem_append_right _ List.mem_cons_self
   ·unfold Kn.stepT at h ⊢
    rw [if_neg hc] at h ⊢
    exact List.mem_append_left _ (ih (by omega) h)
 have := this L.length (Nat.le_refl _)
 rw [List.take_length] at this
 exact this h
theorem zB4 (T : List Int -> Nat) (L : List (List Int)) (hL : L.Pairwise zJ6) : ∀ i, i <= L.length -> ((bestT T (L.take i)).2 = 0 -> ∀ y ∈ L.take i, T y = 0) /\ (0 < (bestT T (L.take i)).2 -> (bestT T (L.take i)).1 ∈ L /\ T (bestT T (L.take i)).1 = (bestT T (L.take i)).2) ∧
  ∀ y ∈ L.take i, T y <= (bestT T (L.take i)).2 /\ (0 < T y -> T y = (bestT T (L.take i)).2 -> y = (bestT T (L.take i)).1 ∨ zJ6 (bestT T (L.take i)).1 y) := by
 intro i
 induction i with
 | zero =>
  intro _
  refine ⟨fun _ y hy => by simp at hy, fun h => ?_, fun y hy => by simp at hy⟩
  rw [List.take_zero] at h
  exact absurd h (Nat.lt_irrefl 0)
 | succ i ih =>
  intro hi
  obtain ⟨h1, h2, h3⟩ := ih (by omega)
  have hi' : i < L.length := by omega
  have es : bestT T (L.take (i + 1)) = Kn.stepT T (bestT T (L.take i)) L[i] := by
   rw [List.take_succ_eq_append_getElem hi', Kn.bestT_snoc]
  have hmem : ∀ y, y ∈ L.take (i + 1) ↔ y ∈ L.take i ∨ y = L[i] := fun y => by
   rw [List.take_succ_eq_append_getElem hi', List.mem_append, List.mem_singleton]
  have hah : ∀ y ∈ L.take i, zJ6 y L[i] := fun y hy => by
   obtain ⟨j, hj, rfl⟩ := List.mem_iff_getElem.1 hy
   have hj2 : j < i := by simp at hj; omega
   rw [List.getElem_take]
   exact List.pairwise_iff_getElem.1 hL j i (by omega) hi' hj2
  rw [es]
  unfold Kn.stepT
  by_cases hc : (bestT T (L.take i)).2 < T L[i]
  ·rw [if_pos hc]
   dsimp only
   refine ⟨fun h => by omega, fun _ => ⟨List.getElem_mem hi', rfl⟩, fun y hy => ?_⟩
   rcases (hmem y).1 hy with hy | rfl
   ·have := (h3 y hy).1
    exact ⟨by omega, fun _ h => by omega⟩
   ·exact ⟨Nat.le_refl _, fun _ _ => .inl rfl⟩
  ·rw [if_neg hc]
   refine ⟨fun h y hy => ?_, h2, fun y hy => ?_⟩
   ·rcases (hmem y).1 hy with hy | rfl
    ·exact h1 h y hy
    ·omega
   ·rcases (hmem y).1 hy with hy | rfl
    ·exact h3 y hy
    ·refine ⟨by omega, fun h0 h => .inr ?_⟩
     obtain ⟨hb, _⟩ := h2 (by omega)
     have hb2 : (bestT T (L.take i)).1 ∈ L.take i := by
      have := zD8 T (L.take i) (by omega)
      exact this
     exact hah _ hb2
theorem zD4 (T : List Int -> Nat) (L : List (List Int)) (hL : L.Pairwise zJ6) : ((bestT T L).2 = 0 -> ∀ y ∈ L, T y = 0) /\ (0 < (bestT T L).2 -> (bestT T L).1 ∈ L /\ T (bestT T L).1 = (bestT T L).2) /\ ∀ y ∈ L, T y <= (bestT T L).2 /\ (0 < T y -> T y = (bestT T L).2 -> y = (bestT T L).1 ∨ zJ6 (bestT T L).1 y) := by
 have := zB4 T L hL L.length (Nat.le_refl _)
 rw [List.take_length] at this
 exact this
theorem zE0 (a b : Int) (talk : ByteArray) (m q : Nat) : (q : Int) ∈ lims a b talk m ↔ q < m /\ 2 <= q /\ b <= (q : Int) /\ has_ (lft (q : Int) talk) a b = true := by
 unfold lims
 rw [List.mem_map]
 constructor
 ·rintro ⟨x, hx, e⟩
  obtain rfl : x = q := by omega
  rw [List.mem_filter, List.mem_range] at hx
  simp only [Bool.and_eq_true, decide_eq_true_eq] at hx
  exact ⟨hx.1, hx.2.1.1, hx.2.1.2, hx.2.2⟩
 ·rintro ⟨h1, h2, h3, h4⟩
  refine ⟨q, ?_, rfl⟩
  rw [List.mem_filter, List.mem_range]
  simp only [Bool.and_eq_true, decide_eq_true_eq]
  exact ⟨h1, ⟨h2, h3⟩, h4⟩
theorem zB6 (a b : Int) (talk : ByteArray) (m : Nat) : (lims a b talk m).Pairwise (· < ·) := by
 unfold lims
 rw [List.pairwise_map]
 refine List.Pairwise.imp ?_ ((List.pairwise_lt_range (n := m)).filter _)
 intro i j h
 omega
theorem zI7 (c d : Int) (said : ByteArray) (hs : said.size <= 1048576) (hp : pr c d = true) (ht : impl_isTalk.ok said = true) (m : Nat) : ∀ q : Nat, 2 <= q -> q <= 17 -> 17 - q <= m →
  Ev (fun k => l3 k c d said (lims c d said 41) (q : Int)) true := by
 have hpp : (1 <= c /\ c <= d) /\ d <= 40 := of_decide_eq_true hp
 have hl := spec_taLimits.lims_len c d said 41
 have stop : Ev (fun k => l3 k c d said (lims c d said 41) ((17 : Nat) : Int)) true :=
  st (fun k => by rw [l3]) (ifp (by omega) (st (fun k => by rw [j12]) (ifn (by simp) now)))
 induction m with
 | zero =>
  intro q h1 h2 h3
  obtain rfl : q = 17 := by omega
  exact stop
 | succ m ih =>
  intro q h1 h2 h3
  by_cases hq : q <= 16
  ·refine st (fun k => by rw [l3]) (ifp (by omega) (st (fun k => by rw [j12]) (ifp (dt (by omega)) ?_)))
   have hn : Ev (fun k => l3 k c d said (lims c d said 41) (wrap64 ((q : Int) + 1))) true := by
    rw [w64 _ (by omega)]
    exact ih (q + 1) (by omega) (by omega) (by omega)
   have hg := zK2 (lims c d said 41) (q : Int) (by omega)
   by_cases hd : (q : Int) < d
   ·have e : decide ((q : Int) ∈ lims c d said 41) = false := df (fun h => by have := ((zE0 c d said 41 q).1 h).2.2.1; omega)
    rw [e] at hg
    exact ifp hd (Ev.bind hg (ifn (by simp) hn))
   ·have ev : vI (q : Int) c d said = (has_ (lft (q : Int) said) c d, true) := by
     have hpr : pair (q : Int) c d = true := dt (by omega)
     unfold vI
     rw [hpr, ht]
     rfl
    have e : decide ((q : Int) ∈ lims c d said 41) = has_ (lft (q : Int) said) c d := by
     rw [Bool.eq_iff_iff, decide_eq_true_eq, zE0]
     exact ⟨fun h => h.2.2.2, fun h => ⟨by omega, h1, by omega, h⟩⟩
    rw [e] at hg
    refine ifn hd (zK7 (iIs (q : Int) c d said hs) ?_)
    rw [ev]
    exact ifp rfl (Ev.bind hg (ifn (by simp) hn))
  ·obtain rfl : q = 17 := by omega
   exact stop
theorem zD3 (c d : Int) (said : ByteArray) (h : (zK1 c d said).2 = true) : pr c d = true /\ impl_isTalk.ok said = true /\ (zK1 c d said).1 = lims c d said 41 := by
 by_cases hc : pr c d = true /\ impl_isTalk.ok said = true
 ·have e : zK1 c d said = (lims c d said 41, true) := if_pos hc
  exact ⟨hc.1, hc.2, by rw [e]⟩
 ·have e : zK1 c d said = ([], false) := if_neg hc
  rw [e] at h
  cases h
theorem zH0 (c d : Int) (said : ByteArray) : (vM c d said).2 = ((zK1 c d said).2 && decide (((zK1 c d said).1.length : Int) > 0)) := by
 unfold vM
 generalize zK1 c d said = v
 obtain ⟨xs, f⟩ := v
 cases f with
 | false => rfl
 | true =>
  by_cases h : xs.length = 0
  ·simp [h]
  ·simp [h]
   omega
theorem zI6 (c d : Int) (said : ByteArray) (hs : said.size <= 1048576) : Ev (fun k => j9 k c d said (zK1 c d said).1 (vM c d said).1 (vM c d said).2) true := by
 refine st (fun k => by rw [j9]) ?_
 cases h9 : (vM c d said).2 with
 | false => exact ifn (by simp) now
 | true =>
  have h := zH0 c d said
  rw [h9] at h
  have h := h.symm
  rw [Bool.and_eq_true, decide_eq_true_eq] at h
  obtain ⟨hp, ht, e⟩ := zD3 c d said h.1
  have hl := spec_taLimits.lims_len c d said 41
  have hm : (vM c d said).1 = rd (zK1 c d said).1 0 := by
   unfold vM
   rw [if_pos h.1, if_neg (by omega)]
  rw [hm]
  rw [e] at h ⊢
  refine ifp rfl (Ev.bind (zG5 _ (by omega) (zB6 _ _ _ _)) (ifp rfl (ifp h.2 ?_)))
  refine st (fun k => by rw [j10]) (ifn (by simp) ?_)
  exact zI7 c d said hs hp ht 15 2 (by omega) (by omega) (by omega)
abbrev pq (a b : Nat) : List Int := [((a + 1 : Nat) : Int), ((b + 1 : Nat) : Int)]
abbrev rB (b n : Nat) : List (List Int) := (List.range n).map fun a => pq a b
abbrev zK0 (m : Nat) : List (List Int) := (List.range m).flatMap fun b => rB b (b + 1)
abbrev kC (T : List Int -> Nat) (xs : List (List Int)) : Nat := xs.countP fun x => decide (T x = 0)
abbrev KT (m : Nat) (who : ByteArray) (T : List Int -> Nat) : Prop := ∀ a b : Nat, b < m -> a <= b -> impl_KnownAfter.f (m : Int) ((a + 1 : Nat) : Int) ((b + 1 : Nat) : Int) who = some ((T (pq a b) : Int), decide (0 < T (pq a b)))
theorem zB8 (m : Nat) (h : m <= 6) : (zK0 m).Perm (pairs m) := by
 match m, h with
 | 0, _ | 1, _ | 2, _ | 3, _ | 4, _ | 5, _ | 6, _ => decide +kernel
section
variable (m : Nat) (who : ByteArray) (T : List Int -> Nat) (c d : Int) (said : ByteArray) (xs : List Int) (least : Int) (nine : Bool) (never : Int)
theorem zI9 (hm : m <= 6) (hT : KT m who T) (b : Nat) (hb : b < m)
  (hA : ∀ q : Nat, q = kC T (zK0 b ++ rB b (b + 1)) -> Ev (fun k => laws_FnTalksKnow.l1 k (m : Int) who never c d said xs least nine (q : Int) ((b + 2 : Nat) : Int)) true) (n : Nat) : ∀ a q : Nat, a <= b + 1 -> b + 1 - a <= n -> q <= 100 →
  q = kC T (zK0 b ++ rB b a) →
  Ev (fun k => l2 k (m : Int) who never c d said xs least nine (q : Int) ((b + 1 : Nat) : Int) ((a + 1 : Nat) : Int)) true := by
 have stop : ∀ q : Nat, q = kC T (zK0 b ++ rB b (b + 1)) -> Ev (fun k => l2 k (m : Int) who never c d said xs least nine (q : Int) ((b + 1 : Nat) : Int) ((b + 1 + 1 : Nat) : Int)) true := fun q hq => by
  refine st (fun k => by rw [l2]) (ifn (by omega) ?_)
  rw [w64 (((b + 1 : Nat) : Int) + 1) (by omega)]
  exact hA q hq
 induction n with
 | zero =>
  intro a q h1 h2 _ h3
  obtain rfl : a = b + 1 := by omega
  exact stop q h3
 | succ n ih =>
  intro a q h1 h2 hq h3
  by_cases ha : a <= b
  ·refine st (fun k => by rw [l2]) (ifp (by omega) (zK7 (hT a b hb ha) ?_))
   have hl : kC T (zK0 b ++ rB b (a + 1)) = q + (if T (pq a b) = 0 then 1 else 0) := by
    have eR : rB b (a + 1) = rB b a ++ [pq a b] := by
     unfold rB
     rw [List.range_succ, List.map_append]
     rfl
    have eK : kC T (zK0 b ++ rB b (a + 1)) = kC T (zK0 b ++ rB b a) + [pq a b].countP (fun x => decide (T x = 0)) := by
     rw [eR, ← List.append_assoc]
     exact List.countP_append
    rw [eK, ← h3, List.countP_singleton]
    by_cases hz : T (pq a b) = 0 <;> simp [hz]
   rw [w64 (((a + 1 : Nat) : Int) + 1) (by omega), w64 ((q : Int) + 1) (by omega)]
   have hq3 : q <= 99 := by
    have h5 : kC T (zK0 b ++ rB b a) <= (zK0 b ++ rB b a).length := List.countP_le_length
    rw [← h3, List.length_append, List.length_map, List.length_range] at h5
    have h6 : (zK0 b).length <= 36 := by
     have hb6 : b < 6 := by omega
     clear h3 hl h5 stop ih hA hT
     match b, hb6 with
     | 0, _ | 1, _ | 2, _ | 3, _ | 4, _ | 5, _ => decide
    omega
   by_cases hz : T (pq a b) = 0
   ·rw [if_pos hz] at hl
    have hd : decide (0 < T (pq a b)) = false := df (by omega)
    exact ifn (by rw [hd]; exact Bool.false_ne_true) (ih (a + 1) (q + 1) (by omega) (by omega) (by omega) hl.symm)
   ·rw [if_neg hz] at hl
    have hd : decide (0 < T (pq a b)) = true := dt (by omega)
    exact ifp hd (ih (a + 1) q (by omega) (by omega) (by omega) hl.symm)
  ·obtain rfl : a = b + 1 := by omega
   exact stop q h3
theorem zJ0 (hm : m <= 6) (hT : KT m who T)
  (hN : never = ((kC T (zK0 m) : Nat) : Int)) (h9 : Ev (fun k => j9 k c d said xs least nine) true) (n : Nat) : ∀ b q : Nat, b <= m -> m - b <= n →
  q = kC T (zK0 b) →
  Ev (fun k => laws_FnTalksKnow.l1 k (m : Int) who never c d said xs least nine (q : Int) ((b + 1 : Nat) : Int)) true := by
 have stop : ∀ q : Nat, q = kC T (zK0 m) -> Ev (fun k => laws_FnTalksKnow.l1 k (m : Int) who never c d said xs least nine (q : Int) ((m + 1 : Nat) : Int)) true := fun q hq => by
  refine st (fun k => by rw [laws_FnTalksKnow.l1]) (ifn (by omega) (ifp ?_ h9))
  rw [hN, hq]
 induction n with
 | zero =>
  intro b q h1 h2 h3
  obtain rfl : b = m := by omega
  exact stop q h3
 | succ n ih =>
  intro b q h1 h2 h3
  by_cases hb : b < m
  ·have hq : q <= 100 := by
    rw [h3]
    refine Nat.le_trans List.countP_le_length ?_
    have hb6 : b < 6 := by omega
    clear h3 stop ih hT hN h9
    match b, hb6 with
    | 0, _ | 1, _ | 2, _ | 3, _ | 4, _ | 5, _ => decide
   refine st (fun k => by rw [laws_FnTalksKnow.l1]) (ifp (by omega) ?_)
   have hs : (zK0 (b + 1)) = (zK0 b) ++ (rB b (b + 1)) := by
    have hs' : ∀ f : Nat -> List (List Int), (List.range (b + 1)).flatMap f = (List.range b).flatMap f ++ f b := fun f => by rw [List.range_succ, List.flatMap_append]; simp
    exact hs' _
   have := zI9 m who T c d said xs least nine never hm hT b hb (fun q' hq' => ih (b + 1) q' (by omega) (by omega) (by rw [hs]; exact hq')) (b + 1) 0 q (by omega) (by omega) hq (by rw [h3, show rB b 0 = [] from rfl, List.append_nil])
   exact this
  ·obtain rfl : b = m := by omega
   exact stop q h3
end
def zJ2 (l : List Int) : Prop := ∀ x ∈ l, 0 <= x /\ x <= 255
theorem zH5 (E : Int) (h0 : 0 <= E) (h1 : E <= 18446744073709551615) : 0 <= Go.bits .and .u64 E 255 /\ Go.bits .and .u64 E 255 <= 255 := by
 have h := bits_and_u64_nat E.toNat 255 (by omega) (by omega)
 rw [Int.toNat_of_nonneg h0] at h
 rw [show ((255 : Nat) : Int) = 255 from rfl] at h
 rw [h]
 have : E.toNat &&& 255 <= 255 := Nat.and_le_right
 omega
theorem zG6 (x : Int) : 0 <= IntKind.u64.wrap x /\ IntKind.u64.wrap x <= 18446744073709551615 := by
 have : IntKind.u64.wrap x = x % 18446744073709551616 := by simp [IntKind.wrap, IntKind.bits, IntKind.signed]
 omega
theorem zC2 (l : List Int) (hl : zJ2 l) (a s : Int) (h0 : 0 <= a) (h1 : a <= 1000000) : ∃ v s', spec_l1Cur_next.f l a s = some (v, a + 1, s') /\ 0 <= v /\ v <= 255 := by
 unfold spec_l1Cur_next.f
 have ew : wrap64 (a + 1) = a + 1 := w64 _ (by omega)
 rw [ew]
 by_cases h : a < (l.length : Int)
 ·rw [if_pos h, if_pos h0, if_pos (by omega)]
  obtain ⟨i, rfl⟩ := Int.eq_ofNat_of_zero_le h0
  have hm : rd l (i : Int) ∈ l := by
   have : rd l (i : Int) = l[i]'(by omega) := by simp [rd, List.getD_eq_getElem?_getD, List.getElem?_eq_getElem (show i < l.length by omega)]
   rw [this]
   exact List.getElem_mem _
  have hb := hl _ hm
  refine ⟨_, _, rfl, ?_⟩
  rw [w64 _ (by omega)]
  exact hb
 ·rw [if_neg h, if_neg (by omega)]
  have hb := zG6 ((IntKind.u64.wrap (IntKind.u64.wrap (s * 6364136223846793005))) + 1442695040888963407)
  generalize IntKind.u64.wrap ((IntKind.u64.wrap (IntKind.u64.wrap (s * 6364136223846793005))) + 1442695040888963407) = E at hb ⊢
  have ha := zH5 (E / 1099511627776) (by omega) (by omega)
  refine ⟨_, _, rfl, ?_⟩
  rw [w64 _ (by omega)]
  exact ha
theorem zC3 (l : List Int) (hl : zJ2 l) (a s n : Int) (h0 : 0 <= a) (h1 : a <= 1000000) (hn : 1 <= n) (hn2 : n <= 200) : ∃ v a' s', spec_l1Cur_pick.f l a s n = some (v, a', s') /\ (0 <= v /\ v < n) /\ a <= a' /\ a' <= a + 1 := by
 unfold spec_l1Cur_pick.f
 by_cases h : n <= 1
 ·rw [if_pos h]
  exact ⟨0, a, s, rfl, by omega, by omega, by omega⟩
 ·rw [if_neg h]
  obtain ⟨v, s', e, hv⟩ := zC2 l hl a s h0 h1
  rw [e, bs, if_neg (by omega), if_neg (by omega)]
  refine ⟨_, _, _, rfl, ?_, by first | omega | (dsimp only; omega), by first | omega | (dsimp only; omega)⟩
  dsimp only
  rw [Int.tmod_eq_emod_of_nonneg hv.1]
  exact ⟨Int.emod_nonneg _ (by omega), Int.emod_lt_of_pos _ (by omega)⟩
theorem zA9 (l : List Int) (hl : zJ2 l) (a s : Int) (xs : List Int) (h0 : 0 <= a) (h1 : a <= 1000000) (hx : 1 <= xs.length) (hx2 : xs.length <= 200) : ∃ v a' s', spec_l1Cur_among.f l a s xs = some (v, a', s') /\ a <= a' /\ a' <= a + 1 := by
 unfold spec_l1Cur_among.f
 obtain ⟨v, a', s', e, hv, ha⟩ := zC3 l hl a s (xs.length : Int) h0 h1 (by omega) (by omega)
 rw [e, bs, if_pos hv.1, if_pos hv.2]
 exact ⟨_, _, _, rfl, ha.1, ha.2⟩
theorem zE3 (l : List Int) (hl : zJ2 l) (a s n : Int) (h0 : 0 <= a) (h1 : a <= 1000000) (hn : 1 <= n) (hn2 : n <= 200) : ∃ v a' s', spec_l1Cur_one.f l a s n = some (v, a', s') /\ a <= a' /\ a' <= a + 1 := by
 unfold spec_l1Cur_one.f
 obtain ⟨v, a', s', e, hv, ha⟩ := zC3 l hl a s n h0 h1 hn hn2
 rw [e, bs]
 exact ⟨_, _, _, rfl, ha.1, ha.2⟩
theorem zE8 (l : List Int) (hl : zJ2 l) (a s : Int) (xs : List ByteArray) (h0 : 0 <= a) (h1 : a <= 1000000) (hx : 1 <= xs.length) (hx2 : xs.length <= 200) (B : Nat) (hB : ∀ x ∈ xs, x.size <= B) : ∃ v a' s', spec_l1Cur_of.f l a s xs = some (v, a', s') /\ v.size <= B /\ a <= a' /\ a' <= a + 1 := by
 unfold spec_l1Cur_of.f
 obtain ⟨v, a', s', e, hv, ha⟩ := zC3 l hl a s (xs.length : Int) h0 h1 (by omega) (by omega)
 rw [e, bs, if_pos hv.1, if_pos hv.2]
 obtain ⟨i, rfl⟩ := Int.eq_ofNat_of_zero_le hv.1
 have hi : i < xs.length := by omega
 refine ⟨_, _, _, rfl, ?_, ha.1, ha.2⟩
 have : rdOf ByteArray.empty xs (i : Int) = xs[i] := by simp [rdOf, List.getD_eq_getElem?_getD, List.getElem?_eq_getElem hi]
 rw [this]
 exact hB _ (List.getElem_mem hi)
theorem zA4 (l : List Int) (hl : zJ2 l) : ∃ n a s, spec_l1Cur_limit.f l 0 0 = some (n, a, s) /\ 0 <= a /\ a <= 10 := by
 unfold spec_l1Cur_limit.f
 obtain ⟨v, a1, s1, e1, h1, h2⟩ := zE3 l hl 0 0 14 (by omega) (by omega) (by omega) (by omega)
 rw [e1, bs]
 dsimp only
 cases v with
 | true =>
  obtain ⟨v2, a2, s2, e2, h3, h4⟩ := zA9 l hl a1 s1 [1, 0, (-1), 40, 41, 4611686018427387904] (by omega) (by omega) (by decide) (by decide)
  rw [if_pos rfl, e2, bs]
  exact ⟨_, _, _, rfl, by first | omega | (dsimp only; omega), by first | omega | (dsimp only; omega)⟩
 | false =>
  obtain ⟨v2, a2, s2, e2, _, h3, h4⟩ := zC3 l hl a1 s1 11 (by omega) (by omega) (by omega) (by omega)
  rw [if_neg (by decide), e2, bs]
  exact ⟨_, _, _, rfl, by first | omega | (dsimp only; omega), by first | omega | (dsimp only; omega)⟩
theorem zG2 (l : List Int) (hl : zJ2 l) (m : Nat) : ∀ (x : ByteArray) (c a s : Int), c <= (m : Int) -> 0 <= a -> a + (m : Int) <= 1000 -> x.size + 26 * m <= 1000 -> ∃ v a' s', Ev (fun k => spec_l1Cur_talk.l0 k x c l a s) (v, a', s') /\ v.size <= 1000 := by
 induction m with
 | zero =>
  intro x c a s h1 h2 h3 h4
  exact ⟨x, a, s, st (fun k => by rw [spec_l1Cur_talk.l0]) (ifn (by omega) now), by omega⟩
 | succ m ih =>
  intro x c a s h1 h2 h3 h4
  by_cases hc : c > 0
  ·obtain ⟨v, a', s', e, hv, h5, h6⟩ := zE8 l hl a s ([⟨#[115, 45]⟩, ⟨#[112, 45]⟩, ⟨#[115, 45]⟩, ⟨#[112, 45]⟩, ⟨#[115, 43]⟩, ⟨#[112, 43]⟩, ⟨#[115, 33]⟩, ⟨#[112, 33]⟩] : List ByteArray) (by omega) (by omega) (by decide) (by decide) 26 (by decide)
   have hw : wrap64 (c - 1) <= (m : Int) := by unfold wrap64; omega
   have hsz : (x ++ v).size + 26 * m <= 1000 := by rw [ByteArray.size_append]; omega
   obtain ⟨v2, a2, s2, h7, h8⟩ := ih (x ++ v) (wrap64 (c - 1)) a' s' hw (by omega) (by omega) hsz
   refine ⟨v2, a2, s2, st (fun k => by rw [spec_l1Cur_talk.l0]) (ifp hc (zK7 e (ifp (c := x.size + v.size <= 9223372036854775807) (by omega) h7))), h8⟩
  ·exact ⟨x, a, s, st (fun k => by rw [spec_l1Cur_talk.l0]) (ifn hc now), by omega⟩
theorem zB9 (l : List Int) (hl : zJ2 l) (a s : Int) (h0 : 0 <= a) (h1 : a <= 100) : ∃ v a' s', Ev (fun k => spec_l1Cur_talk.f k l a s) (v, a', s') /\ v.size <= 1000 := by
 unfold spec_l1Cur_talk.f
 obtain ⟨v, a1, s1, e1, h2, h3⟩ := zE3 l hl a s 14 (by omega) (by omega) (by omega) (by omega)
 cases v with
 | true =>
  obtain ⟨x, a2, s2, e2, hx, h4, h5⟩ := zE8 l hl a1 s1 ([⟨#[115]⟩, ⟨#[115, 63]⟩, ⟨#[120, 45]⟩, ⟨#[45, 115]⟩, ⟨#[115, 45, 112, 45, 115, 45, 112, 45, 115, 45, 112, 45, 115, 45, 112, 45, 115, 45, 112, 45, 115, 45, 112, 45, 115, 45]⟩, ⟨#[115, 45, 112, 45, 115, 45, 112, 45, 115, 45, 112, 45, 115, 45, 112, 45, 115, 45, 112, 45, 115, 45, 112, 45]⟩] : List ByteArray) (by omega) (by omega) (by decide) (by decide) 26 (by decide)
  exact ⟨x, a2, s2, zK7 e1 (ifp rfl (zK7 e2 now)), by omega⟩
 | false =>
  obtain ⟨c, a2, s2, e2, hc, h4, h5⟩ := zC3 l hl a1 s1 5 (by omega) (by omega) (by omega) (by omega)
  obtain ⟨x, a3, s3, h6, h7⟩ := zG2 l hl 5 ⟨#[]⟩ c a2 s2 (by omega) (by omega) (by omega) (by decide)
  exact ⟨x, a3, s3, zK7 e1 (ifn (by simp) (zK7 e2 h6)), h7⟩
theorem zA1 (l : List Int) (hl : zJ2 l) (a s n : Int) (h0 : 0 <= a) (h1 : a <= 1000) : ∃ x y a' s', spec_l1Cur_couple.f l a s n = some (x, y, a', s') /\ 0 <= a' /\ a' <= a + 10 := by
 unfold spec_l1Cur_couple.f
 obtain ⟨m, em⟩ : ∃ m, spec_l1Most.f n 1 = some m /\ 1 <= m := by
  unfold spec_l1Most.f
  by_cases h : n > 1
  ·exact ⟨n, if_pos h, by omega⟩
  ·exact ⟨1, if_neg h, by omega⟩
 obtain ⟨q, eq, hq1, hq2⟩ : ∃ q, spec_l1Least.f m 40 = some q /\ 1 <= q /\ q <= 40 := by
  unfold spec_l1Least.f
  by_cases h : m < 40
  ·exact ⟨m, if_pos h, by omega, by omega⟩
  ·exact ⟨40, if_neg h, by omega, by omega⟩
 rw [em.1, bs, eq, bs]
 obtain ⟨v1, a1, s1, e1, h2, h3, h4⟩ := zC3 l hl a s q h0 (by omega) hq1 (by omega)
 rw [e1, bs]
 dsimp only
 have ew : wrap64 (1 + v1) = 1 + v1 := w64 _ (by omega)
 rw [ew]
 obtain ⟨v2, a2, s2, e2, h5, h6, h7⟩ := zC3 l hl a1 s1 (1 + v1) (by omega) (by omega) (by omega) (by omega)
 rw [e2, bs]
 dsimp only
 obtain ⟨v3, a3, s3, e3, h8, h9⟩ := zE3 l hl a2 s2 14 (by omega) (by omega) (by omega) (by omega)
 rw [e3, bs]
 dsimp only
 cases v3 with
 | true =>
  obtain ⟨v4, a4, s4, e4, h10, h11⟩ := zA9 l hl a3 s3 [0, (-1), wrap64 ((1 + v1) + 1)] (by omega) (by omega) (by simp) (by simp)
  rw [if_pos rfl, e4, bs]
  exact ⟨_, _, _, _, rfl, by first | omega | (dsimp only; omega), by first | omega | (dsimp only; omega)⟩
 | false =>
  rw [if_neg (by decide)]
  exact ⟨_, _, _, _, rfl, by omega, by omega⟩
theorem zA0 (l : List Int) (hl : zJ2 l) (a s : Int) (h0 : 0 <= a) (h1 : a <= 1000) : ∃ v a' s', spec_l1Cur_speaker.f l a s = some (v, a', s') := by
 unfold spec_l1Cur_speaker.f
 obtain ⟨v, a', s', e, _⟩ := zE8 l hl a s ([⟨#[115]⟩, ⟨#[112]⟩, ⟨#[115]⟩, ⟨#[112]⟩, ⟨#[115]⟩, ⟨#[112]⟩, ⟨#[]⟩, ⟨#[120]⟩] : List ByteArray) h0 (by omega) (by decide) (by decide) 1 (by decide)
 rw [e, bs]
 exact ⟨_, _, _, rfl⟩
theorem zC6 (l : List Int) (hl : zJ2 l) : ∃ n a b who, spec_DrawTrueTalk.f l = some (n, a, b, who) := by
 unfold spec_DrawTrueTalk.f
 obtain ⟨n, a, s, e, h1, h2⟩ := zA4 l hl
 obtain ⟨x, y, a', s', e2, h3, h4⟩ := zA1 l hl a s n h1 (by omega)
 obtain ⟨v, a3, s3, e3⟩ := zA0 l hl a' s' h3 (by omega)
 rw [e, bs]
 dsimp only
 rw [e2, bs]
 dsimp only
 rw [e3, bs]
 exact ⟨_, _, _, _, rfl⟩
theorem zA2 (l : List Int) (hl : zJ2 l) : ∃ n who, spec_DrawLongestTalk.f l = some (n, who) := by
 unfold spec_DrawLongestTalk.f
 obtain ⟨n, a, s, e, h1, h2⟩ := zA4 l hl
 obtain ⟨v, a3, s3, e3⟩ := zA0 l hl a s h1 (by omega)
 rw [e, bs]
 dsimp only
 rw [e3, bs]
 exact ⟨_, _, rfl⟩
theorem zG3 (l : List Int) (hl : zJ2 l) : ∃ n a b t, Ev (fun k => spec_DrawIsTrueTalk.f k l) (n, a, b, t) /\ t.size <= 1000 := by
 obtain ⟨n, a, s, e, h1, h2⟩ := zA4 l hl
 obtain ⟨x, y, a', s', e2, h3, h4⟩ := zA1 l hl a s n h1 (by omega)
 obtain ⟨v, a3, s3, h5, h6⟩ := zB9 l hl a' s' h3 (by omega)
 refine ⟨n, x, y, v, ?_, h6⟩
 unfold spec_DrawIsTrueTalk.f
 exact zK7 e (zK7 e2 (Ev.bind h5 now))
theorem zB1 (l : List Int) (hl : zJ2 l) : ∃ a b t, Ev (fun k => spec_DrawLimitsOf.f k l) (a, b, t) /\ t.size <= 1000 := by
 obtain ⟨x, y, a', s', e2, h3, h4⟩ := zA1 l hl 0 0 12 (by omega) (by omega)
 obtain ⟨v, a3, s3, h5, h6⟩ := zB9 l hl a' s' h3 (by omega)
 refine ⟨x, y, v, ?_, h6⟩
 unfold spec_DrawLimitsOf.f
 refine Ev.bind (a := (x, y, v)) ?_ now
 unfold spec_DrawLeastLimit.f
 exact zK7 e2 (Ev.bind h5 now)
theorem zJ3 (i L t : Nat) (hi : i < L) (hL : L <= 12) : (((2 * i : Nat) : Int) < ((2 * L : Nat) : Int)) /\ (0 <= ((2 * i + 1 : Nat) : Int)) /\ (((2 * i + 1 : Nat) : Int) < ((2 * L : Nat) : Int)) /\ (0 <= ((2 * i : Nat) : Int)) /\ (0 <= ((2 * (i - 1) : Nat) : Int)) /\ (((2 * (i - 1) : Nat) : Int) < ((2 * L : Nat) : Int)) /\ (i + 1 = t -> 1 <= t /\ t <= 12) /\ (i + 1 = t -> L = t -> ((2 * (i + 1) : Nat) : Int) = ((2 * L : Nat) : Int)) /\ (i = 0 -> ¬ ((2 * i : Nat) : Int) > 0) /\ (i ≠ 0 -> ((2 * i : Nat) : Int) > 0) /\ (¬ i + 1 = t -> ¬ (t : Int) = ((i + 1 : Nat) : Int)) /\ (¬ 0 < (t : Int) -> ¬ i + 1 = t) :=
 ⟨by omega, by omega, by omega, by omega, by omega, by omega, by omega, by omega, by omega, by omega, by omega, by omega⟩
theorem zH2 (i : Nat) (hi : i < 12) : wrap64 (((2 * i : Nat) : Int) + 1) = ((2 * i + 1 : Nat) : Int) /\ wrap64 (((2 * i : Nat) : Int) + 2) = ((2 * (i + 1) : Nat) : Int) /\ wrap64 ((wrap64 (Int.tdiv ((2 * i : Nat) : Int) 2)) + 1) = ((i + 1 : Nat) : Int) /\ (i ≠ 0 -> wrap64 (((2 * i : Nat) : Int) - 2) = ((2 * (i - 1) : Nat) : Int)) := by
 refine ⟨by rw [w64 _ (by omega)]; omega, by rw [w64 _ (by omega)]; omega, ?_, fun h => by rw [w64 _ (by omega)]; omega⟩
 have h : Int.tdiv ((2 * i : Nat) : Int) 2 = (i : Int) := by rw [Int.tdiv_eq_ediv_of_nonneg (by omega)]; omega
 rw [h, w64 (i : Int) (by omega), w64 ((i : Int) + 1) (by omega)]
 omega
set_option maxHeartbeats 1000000 in
theorem zJ4 (l1 : List Int) (n a b : Int) (who tk : ByteArray) (L : Nat) (ch : Nat -> Int) (t : Nat) (x y long : Int) (four : Bool) (ht : t <= 4000) (hsz : tk.size = 2 * L) (hle : 1 <= L /\ L <= 12) (hL1 : 1 <= t /\ t <= 12 -> L = t) (hL2 : ¬ (1 <= t /\ t <= 12) -> L = 12) (hch : ∀ j, ch (j + 1) ≠ ch j) (hby : ∀ j, j < L -> bt tk ((2 * j : Nat) : Int) = ch j /\ bt tk ((2 * j + 1 : Nat) : Int) = if j + 1 = t then 43 else 45)
  (hA : Ev (fun k => j3 k l1 n a b who (t : Int) (decide (0 < (t : Int))) x y long four false) true) (m : Nat) : ∀ i : Nat, i <= L -> L - i <= m →
  Ev (fun k => laws_FnTalksKnow.l0 k l1 n a b who tk (t : Int) (decide (0 < (t : Int))) x y long four ((2 * i : Nat) : Int)) true := by
 have hsz' : (tk.size : Int) = ((2 * L : Nat) : Int) := by rw [hsz]
 have stop : Ev (fun k => laws_FnTalksKnow.l0 k l1 n a b who tk (t : Int) (decide (0 < (t : Int))) x y long four ((2 * L : Nat) : Int)) true := by
  refine st (fun k => by rw [laws_FnTalksKnow.l0]) (ifn (by rw [hsz']; exact Int.lt_irrefl _) ?_)
  rw [hsz', w64 (2 * (t : Int)) (by omega)]
  by_cases h0 : 0 < (t : Int)
  ·refine ifp (dt h0) ?_
   rw [dt h0] at hA ⊢
   by_cases h12 : (t : Int) > 12
   ·have es : L = 12 := hL2 (by omega)
    rw [es]
    exact ifp h12 (ifp (by omega) (ifn (by omega) hA))
   ·have es : L = t := hL1 (by omega)
    rw [es]
    refine ifn h12 (ifp (by omega) ?_)
    have e : (((2 * t : Nat) : Int) != 2 * (t : Int)) = false := by rw [show ((2 * t : Nat) : Int) = 2 * (t : Int) by omega]; simp
    rw [e]
    exact hA
  ·have es : L = 12 := hL2 (by omega)
   rw [df h0] at hA ⊢
   rw [es]
   exact ifn (by decide) (ifp (by omega) hA)
 induction m with
 | zero =>
  intro i h1 h2
  obtain rfl : i = L := by omega
  exact stop
 | succ m ih =>
  intro i h1 h2
  by_cases hi : i < L
  ·obtain ⟨hb0, hb1⟩ := hby i hi
   have hnext : Ev (fun k => laws_FnTalksKnow.l0 k l1 n a b who tk (t : Int) (decide (0 < (t : Int))) x y long four ((2 * (i + 1) : Nat) : Int)) true := ih (i + 1) (by omega) (by omega)
   obtain ⟨g1, g2, g3, g4, g5, g6, g7, g8, g9, g10, g11, g12⟩ := zJ3 i L t hi hle.2
   obtain ⟨e1, e2, e3, e4⟩ := zH2 i (by omega)
   have n33 : ¬ bt tk ((2 * i + 1 : Nat) : Int) = 33 := by rw [hb1]; split <;> decide
   refine st (fun k => by rw [laws_FnTalksKnow.l0]) ?_
   rw [e1, e2, e3, hsz']
   refine ifp g1 (ifp g2 (ifp g3 ?_))
   by_cases hi0 : i = 0
   ·-- the first statement
    have c0 := g9 hi0
    by_cases h0 : 0 < (t : Int)
    ·refine ifp (dt h0) ?_
     by_cases hp : i + 1 = t
     ·have es : L = t := hL1 (g7 hp)
      rw [if_pos hp] at hb1
      have q : ((bt tk ((2 * i + 1 : Nat) : Int) == 43) != ((t : Int) == ((i + 1 : Nat) : Int))) = false := by rw [hb1, hp]; simp
      rw [q]
      exact ifn (by decide) (ifp hb1 (ifp (g8 hp es) (ifn c0 (ifn n33 hnext))))
     ·rw [if_neg hp] at hb1
      have q : ((bt tk ((2 * i + 1 : Nat) : Int) == 43) != ((t : Int) == ((i + 1 : Nat) : Int))) = false := by
       have e : ((t : Int) == ((i + 1 : Nat) : Int)) = false := beq_eq_false_iff_ne.mpr (g11 hp)
       rw [hb1, e]; decide
      rw [q]
      exact ifn (by decide) (ifn (by rw [hb1]; decide) (ifn c0 (ifn n33 hnext)))
    ·have hp := g12 h0
     rw [if_neg hp] at hb1
     have q : ((bt tk ((2 * i + 1 : Nat) : Int) == 43) != false) = false := by rw [hb1]; decide
     rw [q]
     refine ifn (by rw [df h0]; decide) (ifn (by decide) (ifn (by rw [hb1]; decide) (ifn c0 (ifn n33 hnext))))
   ·have c0 := g10 hi0
    have e4 := e4 hi0
    obtain ⟨hb2, _⟩ := hby (i - 1) (Nat.lt_of_le_of_lt (Nat.sub_le i 1) hi)
    have hne : ¬ bt tk ((2 * i : Nat) : Int) = bt tk ((2 * (i - 1) : Nat) : Int) := by
     have := hch (i - 1)
     rw [Nat.sub_add_cancel (Nat.pos_of_ne_zero hi0)] at this
     rw [hb0, hb2]
     exact this
    rw [e4]
    by_cases h0 : 0 < (t : Int)
    ·refine ifp (dt h0) ?_
     by_cases hp : i + 1 = t
     ·have es : L = t := hL1 (g7 hp)
      rw [if_pos hp] at hb1
      have q : ((bt tk ((2 * i + 1 : Nat) : Int) == 43) != ((t : Int) == ((i + 1 : Nat) : Int))) = false := by rw [hb1, hp]; simp
      rw [q]
      exact ifn (by decide) (ifp hb1 (ifp (g8 hp es) (ifp c0 (ifp g4 (ifp g5 (ifp g6 (ifn hne (ifn n33 hnext))))))))
     ·rw [if_neg hp] at hb1
      have q : ((bt tk ((2 * i + 1 : Nat) : Int) == 43) != ((t : Int) == ((i + 1 : Nat) : Int))) = false := by
       have e : ((t : Int) == ((i + 1 : Nat) : Int)) = false := beq_eq_false_iff_ne.mpr (g11 hp)
       rw [hb1, e]; decide
      rw [q]
      exact ifn (by decide) (ifn (by rw [hb1]; decide) (ifp c0 (ifp g4 (ifp g5 (ifp g6 (ifn hne (ifn n33 hnext)))))))
    ·have hp := g12 h0
     rw [if_neg hp] at hb1
     have q : ((bt tk ((2 * i + 1 : Nat) : Int) == 43) != false) = false := by rw [hb1]; decide
     rw [q]
     exact ifn (by rw [df h0]; decide) (ifn (by decide) (ifn (by rw [hb1]; decide) (ifp c0 (ifp g4 (ifp g5 (ifp g6 (ifn hne (ifn n33 hnext))))))))
  ·obtain rfl : i = L := by omega
   exact stop
theorem zE2 (T : List Int -> Nat) (L : List (List Int)) (hL : L.Pairwise zJ6) : decide (0 < ((bestT T L).2 : Int)) = decide ((((L.countP fun x => decide (T x = 0)) : Nat) : Int) < (L.length : Int)) := by
 obtain ⟨h1, h2, h3⟩ := zD4 T L hL
 rw [decide_eq_decide]
 constructor
 ·intro h
  obtain ⟨hm, he⟩ := h2 (by omega)
  have : (L.countP fun x => decide (T x = 0)) < L.length := by
   refine Nat.lt_of_le_of_ne List.countP_le_length fun e => ?_
   have := List.countP_eq_length.1 e _ hm
   simp only [decide_eq_true_eq] at this
   omega
  omega
 ·intro h
  rcases Nat.eq_zero_or_pos (bestT T L).2 with h0 | h0
  ·have : (L.countP fun x => decide (T x = 0)) = L.length := List.countP_eq_length.2 fun x hx => dt (h1 h0 x hx)
   omega
  ·omega
theorem zJ7 (n : Int) (who : ByteArray) (h : lOk n who = true) : vB n who = tup (prs n) (tms n who) := by
 unfold vB
 rw [h, zE9]
 rfl
theorem zJ8 (n : Int) (who : ByteArray) (h : lOk n who = true) : vC n who = ((((prs n).countP fun x => decide (tms n who x = 0) : Nat) : Int), true) := by
 unfold vC
 rw [h]
 rfl
theorem zI4 (n : Int) (who : ByteArray) (c d : Int) (said : ByteArray) (hs : said.size <= 1048576) : Ev (fun k => j5 k n who (vB n who).2.2.2 (vC n who).1 (vC n who).2 c d said (zK1 c d said).1 (vM c d said).1 (vM c d said).2 false) true := by
 have h9 := zI6 c d said hs
 refine st (fun k => by rw [j5]) (ifn (by simp) ?_)
 cases h5 : lOk n who with
 | false =>
  have e : vC n who = (0, false) := by unfold vC; rw [h5]; rfl
  rw [e]
  exact ifn (by simp) h9
 | true =>
  have hm : 2 <= n /\ n <= 40 := by
   unfold lOk at h5
   simp only [Bool.and_eq_true] at h5
   exact of_decide_eq_true h5.1
  have hw : Kn.who who = true := by
   unfold lOk at h5
   simp only [Bool.and_eq_true] at h5
   exact h5.2
  have hcnt := zB7 n (by omega)
  have hle : ((prs n).countP fun x => decide (tms n who x = 0)) <= (prs n).length := List.countP_le_length
  have hlen := zG9 n (dt hm)
  have e1 : wrap64 (Int.tdiv (wrap64 (n * (wrap64 (n + 1)))) 2) = ((prs n).length : Int) := by
   have hb : (n * (n + 1)).natAbs <= 40 * 41 := zK3 n (n + 1) 40 41 (by omega) (by omega)
   have h0 : 0 <= n * (n + 1) := Int.mul_nonneg (by omega) (by omega)
   rw [w64 (n + 1) (by omega), w64 (n * (n + 1)) (by omega), Int.tdiv_eq_ediv_of_nonneg h0, ← hcnt, w64 (2 * ((prs n).length : Int) / 2) (by omega)]
   omega
  have hnl := zE2 (tms n who) (prs n) (zC5 n)
  rw [zJ8 n who h5, zJ7 n who h5]
  refine ifp rfl (ifn (by omega) ?_)
  rw [e1]
  refine ifn (by omega) ?_
  dsimp only
  rw [hnl, bne_self_eq_false]
  refine st (fun k => by rw [j6]) (ifn (by simp) ?_)
  by_cases h6 : n <= 6
  ·refine ifp h6 ?_
   obtain ⟨m, rfl⟩ := Int.eq_ofNat_of_zero_le (show 0 <= n by omega)
   have hT : ∀ a b : Nat, b < m -> a <= b -> impl_KnownAfter.f (m : Int) ((a + 1 : Nat) : Int) ((b + 1 : Nat) : Int) who = some ((tms (m : Int) who [((a + 1 : Nat) : Int), ((b + 1 : Nat) : Int)] : Int), decide (0 < tms (m : Int) who [((a + 1 : Nat) : Int), ((b + 1 : Nat) : Int)])) := fun a b hb ha => by
    have hk : kOk (m : Int) ((a + 1 : Nat) : Int) ((b + 1 : Nat) : Int) who = true := by
     unfold kOk
     rw [hw, show pair (m : Int) ((a + 1 : Nat) : Int) ((b + 1 : Nat) : Int) = true from dt (by omega)]
     rfl
    rw [zG4]
    unfold vK
    rw [hk, if_pos rfl]
    have e : impl_KnownAfter.t (m : Int) ((a + 1 : Nat) : Int) ((b + 1 : Nat) : Int) who = (tms (m : Int) who [((a + 1 : Nat) : Int), ((b + 1 : Nat) : Int)] : Int) := rfl
    rw [e]
    congr 2
    rw [decide_eq_decide]
    omega
   have hN : (((prs (m : Int)).countP fun x => decide (tms (m : Int) who x = 0) : Nat) : Int) = (((zK0 m).countP fun x => decide (tms (m : Int) who x = 0) : Nat) : Int) := by
    have hp := zB8 m (by omega)
    rw [hp.countP_eq]
    rfl
   have := zJ0 m who (tms (m : Int) who) c d said (zK1 c d said).1 (vM c d said).1 (vM c d said).2 _ (by omega) hT hN h9 m 0 0 (Nat.zero_le _) (Nat.le_refl _) rfl
   exact this
  ·exact ifn h6 h9
theorem zI5 (l1 : List Int) (hl1 : zJ2 l1) : Ev (fun k => j4 k l1) true := by
 obtain ⟨n, who, d1⟩ := zA2 l1 hl1
 obtain ⟨c, d, said, d2, hs2⟩ := zB1 l1 hl1
 obtain ⟨u, e, f, heard, d3, hs3⟩ := zG3 l1 hl1
 have hs : said.size <= 1048576 := by omega
 have hh : heard.size <= 1048576 := by omega
 have h5 := zI4 n who c d said hs
 have hl := zE7 c d said
 have hM := zH0 c d said
 have h35 : (vB n who).2.2.2 = true -> (vC n who).2 = true := by
  intro h
  cases hk : lOk n who with
  | true => rw [zJ8 n who hk]
  | false =>
   have e : vB n who = (0, 0, 0, false) := by unfold vB; rw [hk]; rfl
   rw [e] at h
   cases h
 refine st (fun k => by rw [j4]) (zK7 d1 (zK7 (zJ9 n who) (Ev.bind (zI8 n who) (zK7 (zH1 n who) (Ev.bind (zH8 n who) (Ev.bind d2 (Ev.bind (zD9 c d said hs) (Ev.bind (zD2 c d said hs) (Ev.bind (zI2 c d said hs) (Ev.bind (zH4 c d said hs) (Ev.bind d3 (zK7 (iIs u e f heard hh) (Ev.bind (sIs u e f heard hh) ?_)))))))))))))
 generalize vB n who = B at h5 h35 ⊢
 generalize vC n who = C at h5 h35 ⊢
 generalize vI u e f heard = I
 refine ifn (by simp) (ifp rfl (ifp rfl (ifp rfl (ifn (by simp) (ifp rfl (ifn (by simp) (Ev.bind (zI3 (zK1 c d said).1 (by omega)) (ifp rfl (ifn (by simp) (ifp rfl (ifn (by simp) (ifn (by simp) ?_))))))))))))
 generalize zK1 c d said = V at hM h5 ⊢
 generalize vM c d said = M at hM h5 ⊢
 by_cases h7 : V.2 = true
 ·refine ifp h7 (ifn ?_ ?_)
  ·rw [hM, h7]; simp
  ·by_cases h3 : B.2.2.2 = true
   ·refine ifp h3 ?_
    rw [h35 h3] at h5 ⊢
    exact h5
   ·exact ifn h3 h5
 ·refine ifn h7 (ifn ?_ ?_)
  ·rw [hM]
   simp only [Bool.not_eq_true] at h7
   rw [h7]
   simp
  ·by_cases h3 : B.2.2.2 = true
   ·refine ifp h3 ?_
    rw [h35 h3] at h5 ⊢
    exact h5
   ·exact ifn h3 h5
end Go.Proofs.Ytlkbphhmahipdaa.Pr
namespace Go.Proofs.Ytlkbphhmahipdaa.Pure
open Go.RowKit Go.Proofs.Ytlkbphhmahipdaa.P Go.Proofs.Ytlkbphhmahipdaa.Pr Go.Proofs.Ytlkbphhmahipdaa.E Go.Proofs.YtlkbphhmahipdaaW.PrintWords
open laws_FnTalksKnow (j0 j1 j3 j4)
open impl_KnownAfter (pair)
open Kn (bestT alt)
theorem zF7 (l1 : List Int) (n a b : Int) (who : ByteArray) (hk : kOk n a b who = true) (h4 : Ev (fun k => j4 k l1) true) (t : Nat) (et : impl_KnownAfter.t n a b who = (t : Int)) (e2 : tms n who [a, b] = t) (ht : t <= 4000) :
  Ev (fun k => j0 k l1 n a b who (Kn.talk (Kn.sp who) t) true (t : Int) (decide (0 < (t : Int))) false) true := by
 have hkk := hk
 unfold kOk at hkk
 simp only [Bool.and_eq_true] at hkk
 have hp := of_decide_eq_true hkk.1
 have hw := Kn.wh_of hkk.2
 have hlo : lOk n who = true := by
  unfold lOk
  rw [hkk.2, show impl_CountNeverKnown.most n = true from dt (by omega)]
  rfl
 have hm : [a, b] ∈ prs n := impl_left.mem_pairs _ _ _ (by omega)
 have htt := zC0 n who a b hk
 rw [et, Int.toNat_natCast] at htt
 have hok := zF1 (Kn.sp who) t
 have hsz := zB5 (Kn.sp who) t
 have hle := zG1 t
 have hss : (Kn.talk (Kn.sp who) t).size <= 1048576 := by omega
 obtain ⟨hb1, hb2, hb3⟩ := zD4 (tms n who) (prs n) (zC5 n)
 obtain ⟨hq1, hq2⟩ := hb3 _ hm
 rw [e2] at hq1 hq2
 have hB := zJ7 n who hlo
 unfold tup at hB
 have hst : (Kn.talk (Kn.sp who) t).extract 0 1 = who := by
  have h1 := (impl_isTrue.parts _ hok).2.2.1 0 (by omega)
  have h2 := (zA7 (Kn.sp who) t 0 (by omega)).1
  have h3 : impl_isTrue.sp (Kn.talk (Kn.sp who) t) 0 = Kn.sp who := by
   unfold impl_isTrue.sp
   rw [show (2 * ((0 : Nat) : Int)) = ((2 * 0 : Nat) : Int) from rfl, h2]
   have : alt (Kn.sp who) 0 = Kn.sp who := rfl
   rw [this]
   cases Kn.sp who <;> decide
  have h4 := h1.1
  rw [h3, ← hw] at h4
  exact h4
 generalize hz : (bestT (tms n who) (prs n)).1 = z at *
 generalize hv : (bestT (tms n who) (prs n)).2 = v at *
 have hA : Ev (fun k => j3 k l1 n a b who (t : Int) (decide (0 < (t : Int))) (rd z 0) (rd z 1) (v : Int) (decide (0 < (v : Int))) false) true := by
  refine st (fun k => by rw [j3]) (ifn (by simp) ?_)
  by_cases hv0 : 0 < (v : Int)
  ·obtain ⟨hzm, hzt⟩ := hb2 (by omega)
   obtain ⟨x, y, rfl, hx1, hx2, hx3⟩ := impl_left.all_mem _ _ _ hzm
   have r0 : rd [x, y] 0 = x := rfl
   have r1 : rd [x, y] 1 = y := rfl
   rw [r0, r1]
   have hkx : kOk n x y who = true := by
    unfold kOk
    rw [hkk.2, show pair n x y = true from dt (by omega)]
    rfl
   have ev : vK n x y who = ((v : Int), true) := by
    unfold vK
    rw [hkx, if_pos rfl]
    have : impl_KnownAfter.t n x y who = (v : Int) := by rw [← hzt]; rfl
    rw [this, dt hv0]
   refine ifp (dt hv0) (zK7 (zG4 n x y who) ?_)
   rw [ev]
   refine ifp rfl (ifp rfl ?_)
   by_cases h0 : 0 < (t : Int)
   ·refine ifp (dt h0) ?_
    by_cases htv : (t : Int) = (v : Int)
    ·have hah := hq2 (by omega) (by omega)
     refine ifp htv (ifn ?_ ?_)
     ·rcases hah with e | h
      ·injection e with e _
       omega
      ·have h : a > x ∨ x = a /\ y < b := h
       omega
     ·by_cases hax : a = x
      ·refine ifp hax (ifn ?_ h4)
       rcases hah with e | h
       ·injection e with _ e
        injection e with e
        omega
       ·have h : a > x ∨ x = a /\ y < b := h
        omega
      ·exact ifn hax h4
    ·exact ifn htv h4
   ·exact ifn (by rw [df h0]; decide) h4
  ·exact ifn (by rw [df hv0]; decide) h4
 have hL := zJ4 l1 n a b who (Kn.talk (Kn.sp who) t) (sts t) (fun j => if alt (Kn.sp who) j = true then 115 else 112) t (rd z 0) (rd z 1) (v : Int) (decide (0 < (v : Int))) ht hsz hle (fun h => if_pos h) (fun h => if_neg h) (fun j => by rw [Kn.alt_succ]; cases alt (Kn.sp who) j <;> decide) (zA7 (Kn.sp who) t) hA (sts t) 0 (Nat.zero_le _) (Nat.le_refl _)
 refine st (fun k => by rw [j0]) (ifn (by simp) (ifp rfl (zK7 (iIs n a b _ hss) (zK7 (zJ9 n who) (zK7 (zG8 _ hss) ?_)))))
 rw [hok, htt, hB]
 refine ifp rfl (ifp rfl (ifp rfl (ifn (by omega) (ifp (by omega) (ifp (by omega) (ifp (congrArg ByteArray.toList hst) ?_))))))
 by_cases h0 : 0 < (t : Int)
 ·refine ifp (dt h0) (ifp (dt (by omega)) (ifn (by omega) ?_))
  have e : decide ((t : Int) > (v : Int)) = false := df (by omega)
  rw [e]
  refine st (fun k => by rw [j1]) (ifn (by simp) ?_)
  exact hL
 ·refine ifn (by rw [df h0]; decide) ?_
  refine st (fun k => by rw [j1]) (ifn (by simp) ?_)
  exact hL
theorem FnTalksKnow : laws_FnTalksKnow.Pure := by
 intro l0 l1 _ _ w0 _ _ w1
 have hB := fun (l : List Int) (w : ∀ x ∈ l, (Lit.int .u8 x).wf = true) => (show zJ2 l from fun x hx => by have := w x hx; simp [Lit.wf, IntKind.min, IntKind.max, IntKind.signed, IntKind.bits] at this; omega)
 have hl0 := hB l0 w0
 have hl1 := hB l1 w1
 refine Ev.rounds ?_
 unfold laws_FnTalksKnow.f
 by_cases hb : laws_big.f l0 l1 = some true
 ·exact zK7 hb (ifp rfl now)
 have hb2 : laws_big.f l0 l1 = some false := by
  unfold laws_big.f at hb ⊢
  by_cases h : (l0.length : Int) > 1048576
  ·rw [if_pos h] at hb; exact absurd rfl hb
  ·rw [if_neg h] at hb ⊢
   cases e : decide ((l1.length : Int) > (wrap64 (1048576 - (l0.length : Int)))) with
   | true => rw [e] at hb; exact absurd rfl hb
   | false => rfl
 obtain ⟨n, a, b, who, d1⟩ := zC6 l0 hl0
 have h4 := zI5 l1 hl1
 refine zK7 hb2 (ifn (by simp) (zK7 d1 (zK7 (zH3 n a b who) (zK7 (zI1 n a b who) (zK7 (zG4 n a b who) (zK7 (zH6 n a b who) ?_))))))
 refine ifn (by simp) (ifp rfl (ifn (by simp) (ifp rfl ?_)))
 cases hk : kOk n a b who with
 | false =>
  have eT : vT n a b who = (⟨#[]⟩, false) := by unfold vT; rw [hk]; rfl
  have eK : vK n a b who = (0, false) := by unfold vK; rw [hk]; rfl
  rw [eT, eK]
  exact ifn (by simp) (st (fun k => by rw [j0]) (ifn (by simp) (ifn (by simp) h4)))
 | true =>
  obtain ⟨t, hT⟩ : ∃ t, t = tms n who [a, b] := ⟨_, rfl⟩
  have et : impl_KnownAfter.t n a b who = (t : Int) := by rw [hT]; rfl
  have eT : vT n a b who = (Kn.talk (Kn.sp who) t, true) := by
   unfold vT
   rw [hk, if_pos rfl, et, Int.toNat_natCast]
  have eK : vK n a b who = ((t : Int), decide (0 < (t : Int))) := by
   unfold vK
   rw [hk, if_pos rfl, et]
  have ht : t <= 4000 := by
   rw [hT]
   exact zJ5 _ _ _
  have hj := zF7 l1 n a b who hk h4 t et hT.symm ht
  rw [eT, eK]
  by_cases h0 : 0 < (t : Int)
  ·exact ifp (dt h0) hj
  ·exact ifn (by rw [df h0]; exact Bool.false_ne_true) hj
end Go.Proofs.Ytlkbphhmahipdaa.Pure
