/- Calls of the functions of the given program return what the plain Lean functions of the same names return; and a row of a law out of its pure statement. Written by a program of this session out of the translation; Lean checks it. No condition. -/
import Derived.Test.YtnbolemfldmohaaPc0
import Derived.RangeFuncBox
import Derived.RangeFuncNested
import Derived.RangeFuncLeaves
import Derived.RangeFuncCalls
import Derived.Shelf.Abstract
import Derived.WalkKit
import Derived.OwnWalkIn
import Derived.TacticsInMore
import Derived.LoopNIn
import Derived.LoopIn
import Derived.Maps.AppendAt
import Derived.Sort.QuietTacIn
import Derived.RegionIn
import Derived.Test.YtnbolemfldmohaaRq
import Derived.Test.YtnbolemfldmohaaChB
import Derived.Test.YtnbolemfldmohaaHlp
namespace Go.Proofs.Ytnbolemfldmohaa.P
open Go.RowKit Go.Proofs.YtnbolemfldmohaaW.PrintWords Go.Proofs.YtnbolemfldmohaaW.PrintLast Go.Proofs.YtnbolemfldmohaaW.PrintMore
attribute [local go_sem] max2_int min2_int max_two min_two max_three min_three max_four min_four   -- for this text's walks alone
set_option linter.unusedVariables false
set_option linter.unusedSimpArgs false

/-! ### impl_leastChain: function 64, by hand -/
-- IMPORT Derived.RangeFuncBox
-- IMPORT Derived.RangeFuncNested
-- IMPORT Derived.RangeFuncLeaves
-- IMPORT Derived.RangeFuncCalls
-- IMPORT Derived.Shelf.Abstract
-- IMPORT Derived.WalkKit
-- IMPORT Derived.OwnWalkIn
-- IMPORT Derived.TacticsInMore
-- IMPORT Derived.LoopNIn
-- IMPORT Derived.LoopIn
-- IMPORT Derived.Maps.AppendAt
-- IMPORT Derived.Sort.QuietTacIn
-- IMPORT Derived.RegionIn
-- IMPORT Derived.Test.YtnbolemfldmohaaRq
-- IMPORT Derived.Test.YtnbolemfldmohaaChB
-- IMPORT Derived.Test.YtnbolemfldmohaaHlp
namespace Bw
theorem mx_neg (x : Int) (h : x.natAbs ≤ 9223372036854775807) : (if x < wrap64 (-x) then wrap64 (-x) else x) = (x.natAbs : Int) := by
  rw [E.w64 _ (by omega)]; split <;> omega
theorem natAbs_tmod_lt (a b : Int) (h : b ≠ 0) : (a.tmod b).natAbs < b.natAbs := by
  rw [Int.natAbs_tmod]; exact Nat.mod_lt _ (by omega)
set_option maxHeartbeats 2000000 in
/-- The greatest common divisor: the call only draws. -/
theorem divisor (a0 a1 : Int) (w : World) (ha : a0.natAbs ≤ 4611686018427387904) (hb : a1.natAbs ≤ 4611686018427387904) :
    Calls Try.prog 87 #[.int .i64 a0, .int .i64 a1] w fun e w' => e = .returned (.int .i64 (Mth.g a0 a1)) ∧ Drawn0 w w' := by
  obtain ⟨r, hr⟩ : ∃ r, Mth.g a0 a1 = r := ⟨_, rfl⟩
  rw [hr]
  have RR := Aside0.mk hr
  clear hr
  have BA := Aside0.mk ha
  have BB := Aside0.mk hb
  clear ha hb
  go_enter Try.func87, Try.ntmps87
  go_wp2
  repeat (go_quiet (fail); try go_wp2)
  go_loopg [0, 1] a1.natAbs (fun kq v0 v1 w' => ∃ (x y : Int), v0 = .int .i64 x ∧ v1 = .int .i64 y ∧ Aside0 (x.natAbs ≤ 4611686018427387904) ∧ Aside0 (y.natAbs ≤ 4611686018427387904) ∧ Aside0 (Mth.g x y = r) ∧ Aside0 (y.natAbs ≤ kq) ∧ Aside0 (∃ n, w' = w.drewN n))
  case atStart => exact ⟨a0, a1, rfl, rfl, BA, BB, RR, ⟨Nat.le_refl _⟩, ⟨by first | exact ⟨0, rfl⟩ | (rw [World.drewN_drewN]; exact ⟨_, rfl⟩) | exact ⟨_, rfl⟩⟩⟩
  case round =>
    obtain ⟨x, y, rfl, rfl, HX, HY, HG, HK, HW⟩ := hrel
    by_cases c3 : y = 0
    · have c3b0 : (y == 0) = true := beq_iff_eq.mpr c3
      have c3b1 : (y != 0) = false := bne_eq_false_iff_eq.mpr c3
      have e := HG.out
      rw [c3, Mth.g_zero, ← mx_neg x (by have := HX.out; omega)] at e
      clear c3
      go_wp2
      repeat (go_quiet (fail); try go_wp2)
      go_ret
      exact ⟨rfl, ⟨HW.out⟩⟩
    · have c3b0 : (y == 0) = false := beq_eq_false_iff_ne.mpr c3
      have c3b1 : (y != 0) = true := bne_iff_ne.mpr c3
      have hl := natAbs_tmod_lt x y c3
      have hg := Mth.g_step x y c3
      have HL := Aside0.mk hl
      have HG2 := Aside0.mk hg
      clear hl hg
      go_wp2
      repeat (go_quiet (fail); try go_wp2)
      go_roundg (x.tmod y).natAbs
      case measure => have := HL.out; have := HK.out; omega
      case rel => exact ⟨y, x.tmod y, rfl, rfl, HY, ⟨by have := HL.out; have := HY.out; omega⟩, ⟨HG2.out.trans HG.out⟩, ⟨Nat.le_refl _⟩, ⟨by obtain ⟨n, hn⟩ := HW.out; rw [hn]; first | exact ⟨_, rfl⟩ | (rw [World.drewN_drewN]; exact ⟨_, rfl⟩)⟩⟩
end Bw
namespace Bw
open Go.Shelf Go.Proofs
attribute [local go_sem] Oper.semAt_some
/-- A ratio of numbers from 1 to 100. -/
abbrev PR := { x : Int × Int // (1 ≤ x.1 ∧ x.1 ≤ 100) ∧ 1 ≤ x.2 ∧ x.2 ≤ 100 }
def pr0 : PR := ⟨(1, 1), by decide⟩
/-- What has come when k rounds are over. -/
def at_ (zs : List PR) (j : Nat) : Int × PR := ((zs.length : Int) - 1 - (j : Int), zs.getD (zs.length - 1 - j) pr0)
def dn (zs : List PR) (k : Nat) : List (Int × PR) := (List.range k).map (at_ zs)
theorem dn_succ (zs : List PR) (k : Nat) : dn zs (k + 1) = dn zs k ++ [at_ zs k] := by simp [dn, List.range_succ]
theorem dn_length (zs : List PR) (k : Nat) : (dn zs k).length = k := by simp [dn]
/-- The slice's cells. -/
def Lies (W : World) (A : Option Addr) (zs : List PR) : Prop := ∀ j, j < zs.length → ∃ ad, A = some ad ∧ W.cell? (ad.add (j * 2)) = some (.int .i64 (zs.getD j pr0).1.1) ∧ W.cell? ⟨(ad.add (j * 2)).block, (ad.add (j * 2)).off + 1, none⟩ = some (.int .i64 (zs.getD j pr0).1.2)
theorem Lies.below {w W : World} {A : Option Addr} {zs : List PR} (h : Lies w A zs) (hb : Below w.heap.size w W) : Lies W A zs := fun j hj => by
  obtain ⟨ad, e, h1, h2⟩ := h j hj
  exact ⟨ad, e, pw_cell_below hb h1, pw_cell_below hb h2⟩
/-- What a round keeps: all that lay ahead of the call, and the box of the slice. -/
def KB (n₀ Bs : Nat) (sv : Value) (A B : World) : Prop := Below n₀ A B ∧ (A.cell? ⟨Bs, 0, none⟩ = some sv → B.cell? ⟨Bs, 0, none⟩ = some sv)
theorem KB.refl {n₀ Bs : Nat} {sv : Value} (A : World) : KB n₀ Bs sv A A := ⟨Below.refl _ _, id⟩
theorem KB.trans {n₀ Bs : Nat} {sv : Value} {A B C : World} (h : KB n₀ Bs sv A B) (k : KB n₀ Bs sv B C) : KB n₀ Bs sv A C := ⟨h.1.trans k.1, fun e => k.2 (h.2 e)⟩
set_option maxRecDepth 100000 in
set_option maxHeartbeats 2000000 in
theorem bw1_in (F : Fence) (n : Nat) (h9 : F.fn 93) (hro : F.round = none) (hn : 1 ≤ n) (l Bs n₀ cap : Nat) (A : Option Addr) (zs : List PR) (_hlen : zs.length ≤ maxLen) (hreach : zs.length * 16 ≤ 140737488351232) (J Jx : List (Int × PR) → World → Prop)
    (hY : ∀ pre x W, J pre W → pre.length < zs.length → YieldAt F (n - 1) Try.prog l #[.int .i64 x.1, .agg #[.int .i64 x.2.1.1, .int .i64 x.2.1.2]] W fun e W' =>
      (e = .returned (.bool true) ∧ J (pre ++ [x]) W' ∧ KB n₀ Bs (.slice A zs.length cap) W W') ∨ (e = .returned (.bool false) ∧ Jx (pre ++ [x]) W'))
    (W w : World) (hn0 : w.heap.size ≤ n₀) (hwW : Below w.heap.size w W) (hBs : W.cell? ⟨Bs, 0, none⟩ = some (.slice A zs.length cap)) (hc : Lies w A zs) (h0 : J [] W) :
    CallsIn F n Try.prog 93 #[.func (.yield l) #[] #[], .pointer (some ⟨Bs, 0, none⟩)] W fun e W' => (∃ v, e = .returned v) ∧
      ((∃ ys, ys = dn zs zs.length ∧ J ys W') ∨ (∃ pre, (∃ k, k ≤ zs.length ∧ pre = dn zs k) ∧ Jx pre W')) := by
  have hl2 : zs.length ≤ 8796093022208 := by omega
  have hw1 : IntKind.i64.wrap ((zs.length : Int) - 1) = (zs.length : Int) - 1 := by simp [IntKind.wrap, IntKind.signed, IntKind.bits]; omega
  refine callsIn_of_wp Try.func93 rfl h9 ?_ hro
  simp only [Try.ntmps93, List.size_toArray, List.length_cons, List.length_nil, Nat.reduceAdd, Nat.reduceSub, Array.replicate_succ, Array.replicate_zero, List.push_toArray, List.append_toArray, List.nil_append, List.cons_append]
  gi_wp2
  gi_loopw [3] (fun i wr => ∃ k : Nat, k ≤ zs.length ∧ i = .int .i64 ((zs.length : Int) - 1 - (k : Int)) ∧ J (dn zs k) wr ∧ KB n₀ Bs (.slice A zs.length cap) W wr)
    (fun i _ => (intOf i + 1).toNat)
  case atStart => exact ⟨0, Nat.zero_le _, by simp, h0, KB.refl _⟩
  case round =>
    obtain ⟨k, hk, rfl, hJs, hnx⟩ := hrel
    have hB2 := hnx.2 hBs
    by_cases hlt : k < zs.length
    · obtain ⟨j, hj⟩ : ∃ j : Nat, j + k + 1 = zs.length := ⟨zs.length - 1 - k, by omega⟩
      have hi : (zs.length : Int) - 1 - (k : Int) = (j : Int) := by omega
      obtain ⟨fn, tmps, assign, body, hy, hR⟩ := hY _ (at_ zs k) wr hJs (by rw [dn_length]; exact hlt)
      have hjl : j < zs.length := by omega
      obtain ⟨ad, hA, hc1, hc2⟩ := (hc.below (hwW.trans (hnx.1.mono hn0))) j hjl
      have hat : at_ zs k = ((j : Int), zs.getD j pr0) := by unfold at_; rw [hi, show zs.length - 1 - k = j by omega]
      rw [hat] at hy hR
      generalize zs.getD j pr0 = pq at hy hR hc1 hc2 hat
      obtain ⟨⟨p, q⟩, hpq⟩ := pq
      dsimp only at hy hR hc1 hc2
      rw [hi]
      subst hA
      have hjz : (j : Int) < (zs.length : Int) := by omega
      gi_wp2
      refine hR.mono ?_
      rintro e W3 (⟨rfl, hJ3, hk3⟩ | ⟨rfl, hJx3⟩)
      · have hw2 : IntKind.i64.wrap ((j : Int) - 1) = (j : Int) - 1 := by simp [IntKind.wrap, IntKind.signed, IntKind.bits]; omega
        gi_wp2
        go_roundw
        case rel => exact ⟨k + 1, by omega, by congr 1; omega, by rw [dn_succ, hat]; exact hJ3, hnx.trans hk3⟩
        case measure => simp [intOf]
      · gi_wp2
        refine bodyPost_ret (results_none rfl _ _ _) rfl ?_
        exact ⟨⟨_, rfl⟩, .inr ⟨_, ⟨k + 1, by omega, by rw [dn_succ, hat]⟩, hJx3⟩⟩
    · obtain rfl : k = zs.length := by omega
      have hi : (zs.length : Int) - 1 - (zs.length : Int) = -1 := by omega
      rw [hi]
      gi_wp2
      go_end0
      exact ⟨⟨_, rfl⟩, .inl ⟨_, rfl, hJs⟩⟩
set_option maxHeartbeats 1000000 in
/-- slices.Backward: the slice value is boxed; the function value captures the box. -/
theorem bw_in (F : Fence) (n : Nat) (h6 : F.fn 86) (hro : F.round = none) (a : Option Addr) (len cap : Nat) (w : World) :
    CallsIn F n Try.prog 86 #[.slice a len cap] w fun e w' => e = .returned (.func (.func 93) #[] #[.pointer (some ⟨w.heap.size, 0, none⟩)]) ∧ w' = w.alloc (.cells #[.slice a len cap] 26) := by
  refine callsIn_of_wp Try.func86 rfl h6 ?_ hro
  simp only [Try.ntmps86, List.size_toArray, List.length_cons, List.length_nil, Nat.reduceAdd, Nat.reduceSub, Array.replicate_succ, Array.replicate_zero, List.push_toArray, List.append_toArray, List.nil_append, List.cons_append]
  gi_wp2
  go_ret
  exact ⟨rfl, rfl⟩
/-- slices.Backward hands back a value that goes through the slice from its end. -/
theorem bw_stops (F : Fence) (n : Nat) (h9 : F.fn 93) (hro : F.round = none) (hn : 1 ≤ n) (Bs cap : Nat) (A : Option Addr) (zs : List PR) (hlen : zs.length ≤ maxLen) (hreach : zs.length * 16 ≤ 140737488351232) (v w : World) (hv : Below v.heap.size v w) (hBs : Bs < w.heap.size)
    (hc : w.cell? ⟨Bs, 0, none⟩ = some (.slice A zs.length cap)) (hL : Lies v A zs) :
    SeqStopsK F n Try.prog 93 #[.pointer (some ⟨Bs, 0, none⟩)] (fun x : Int × PR => #[.int .i64 x.1, .agg #[.int .i64 x.2.1.1, .int .i64 x.2.1.2]]) (KB v.heap.size Bs (.slice A zs.length cap)) (fun ys => ys = dn zs zs.length) (fun pre => ∃ k, k ≤ zs.length ∧ pre = dn zs k) zs.length w := fun l J Jx W hW _ _ hY h0 => by
  have hcW := (hW.cell (p := ⟨Bs, 0, none⟩) hBs).trans hc
  exact bw1_in F n h9 hro hn l Bs v.heap.size cap A zs hlen hreach J Jx hY W v (Nat.le_refl _) (hv.trans (hW.mono hv.size)) hcW hL h0
/-- One round. -/
def stp (s : List Int) (x : PR) : List Int := Ch.upI x.1.1 x.1.2 s
theorem i64_wrap (x : Int) : IntKind.i64.wrap x = wrap64 x := by unfold wrap64; simp [IntKind.wrap, IntKind.signed, IntKind.bits]; omega
theorem size_alloc' (w : World) (o : Obj) : (w.alloc o).heap.size = w.heap.size + 1 := by simp
def out (step : List Int → PR → List Int) (pre : List (Int × PR)) : List Int := pre.foldl (fun s x => step s x.2) [1]
theorem out_snoc (step : List Int → PR → List Int) (pre : List (Int × PR)) (x : Int × PR) : out step (pre ++ [x]) = step (out step pre) x.2 := by simp [out]
theorem KB.t {n₀ Bs : Nat} {sv : Value} {A B C : World} (h : KB n₀ Bs sv A B) (k : KB n₀ Bs sv B C) : KB n₀ Bs sv A C := h.trans k
theorem out_length (step : List Int → PR → List Int) (hs : ∀ s x, (step s x).length = s.length + 1) (pre : List (Int × PR)) : (out step pre).length = pre.length + 1 := by
  have : ∀ (pre : List (Int × PR)) (s : List Int), (pre.foldl (fun s x => step s x.2) s).length = s.length + pre.length := by
    intro pre
    induction pre with
    | nil => intro s; rfl
    | cons x pre ih => intro s; rw [List.foldl_cons, ih, hs, List.length_cons]; omega
  rw [out, this]
  simp; omega
/-- A row whose first i numbers have been turned. -/
def upd (f : Int → Int) (s : List Int) (i : Nat) : List Int := (s.take i).map f ++ s.drop i
theorem upd_len (f : Int → Int) (s : List Int) (i : Nat) : (upd f s i).length = s.length := by simp [upd]; omega
theorem upd_zero (f : Int → Int) (s : List Int) : upd f s 0 = s := by simp [upd]
theorem upd_all (f : Int → Int) (s : List Int) : upd f s s.length = s.map f := by simp [upd]
theorem upd_get (f : Int → Int) (s : List Int) (i : Nat) (h : i < s.length) : (upd f s i)[i]? = some (s.getD i 0) := by
  unfold upd
  rw [List.getElem?_append_right (by simp; omega)]
  simp [Nat.min_eq_left (Nat.le_of_lt h), List.getD_eq_getElem?_getD, List.getElem?_eq_getElem h]
theorem upd_set (f : Int → Int) (s : List Int) (i : Nat) (h : i < s.length) : (upd f s i).set i (f (s.getD i 0)) = upd f s (i + 1) := by
  have e : s.drop i = s.getD i 0 :: s.drop (i + 1) := by rw [List.getD_eq_getElem?_getD, List.getElem?_eq_getElem h, Option.getD_some]; exact List.drop_eq_getElem_cons h
  have e2 : s.take (i + 1) = s.take i ++ [s.getD i 0] := by rw [List.getD_eq_getElem?_getD, List.take_add_one]; simp [List.getElem?_eq_getElem h]
  unfold upd
  rw [e, e2, List.map_append, List.set_append_right _ _ (by simp; omega)]
  simp [Nat.min_eq_left (Nat.le_of_lt h)]
theorem out_bd' : ∀ (pre : List (Int × PR)) (B : Int) (s : List Int), Ch.Bd B s → s ≠ [] → Ch.Bd (B * 100 ^ pre.length) (pre.foldl (fun s x => stp s x.2) s) := by
  intro pre
  induction pre with
  | nil => intro B s h _; simpa using h
  | cons x pre ih =>
    intro B s h h0
    have h1 := ih (B * 100) (stp s x.2) (Ch.upI_bd B x.2.1.1 x.2.1.2 s x.2.2.1 x.2.2.2 h h0) (by intro e; have := Ch.upI_len x.2.1.1 x.2.1.2 s; unfold stp at e; rw [e] at this; simp at this)
    rw [List.foldl_cons, List.length_cons, Int.pow_succ, Int.mul_comm (100 ^ pre.length) 100, ← Int.mul_assoc]
    exact h1
theorem out_bd (pre : List (Int × PR)) (h : pre.length < 6) : Ch.Bd 10000000000 (out stp pre) := by
  have h1 := out_bd' pre 1 [1] (by intro x hx; rw [List.mem_singleton] at hx; subst hx; decide) (by simp)
  refine Ch.Bd.mono h1 ?_
  generalize pre.length = k at h
  have : k = 0 ∨ k = 1 ∨ k = 2 ∨ k = 3 ∨ k = 4 ∨ k = 5 := by omega
  rcases this with rfl | rfl | rfl | rfl | rfl | rfl <;> decide
theorem up_eq (s0 p q d e0 f0 : Int) (t : List Int) (hp : 1 ≤ p ∧ p ≤ 100) (hq : 1 ≤ q ∧ q ≤ 100) (hb : Ch.Bd 10000000000 (s0 :: t)) (hd : Mth.g (s0 * p) q = d) (h0 : IntKind.i64.wrap ((s0 * p).tdiv d) = e0) (h1 : IntKind.i64.wrap (q.tdiv d) = f0) :
    e0 :: (s0 :: t).map (fun y => IntKind.i64.wrap (y * f0)) = Ch.up p q (s0 :: t) := by
  obtain ⟨_, _, _, _, k1, k2⟩ := Ch.head_num 10000000000 s0 p q (by decide) (hb s0 (List.mem_cons_self ..)) hp hq
  subst hd
  rw [i64_wrap, k1] at h0
  rw [i64_wrap, k2] at h1
  subst h0 h1
  have h2 := Ch.row_num 10000000000 (q / Mth.g (s0 * p) q) (s0 :: t) (by decide) hb (Ch.part_bd _ q hq)
  simp only [i64_wrap]
  rw [h2]
  rfl
theorem stp_len (s : List Int) (x : PR) : (stp s x).length = s.length + 1 := Ch.upI_len _ _ _
set_option maxRecDepth 100000 in
set_option maxHeartbeats 4000000 in
theorem leastChain (A : Option Addr) (cap : Nat) (zs : List PR) (hlen : zs.length ≤ 6) (w : World) (hL : Lies w A zs)
   (hD : ∀ (a b : Int) (W : World), a.natAbs ≤ 4611686018427387904 → b.natAbs ≤ 4611686018427387904 → Calls Try.prog 87 #[.int .i64 a, .int .i64 b] W fun e w' => e = .returned (.int .i64 (Mth.g a b)) ∧ Drawn0 W w') :
    Calls Try.prog 64 #[.slice A zs.length cap] w fun e w' => ∃ v, e = .returned v ∧ w'.ownsRow w.heap.size 3 1 v (zs.length + 1) ((out stp (dn zs zs.length)).map (Value.int .i64)) ∧ Below w.heap.size w w' := by
  refine (callsIn_wide (n := 3)).1 ?_
  refine callsIn_of_wp_marks Try.func64 rfl trivial ?_ rfl
  simp only [Try.ntmps64, List.size_toArray, List.length_cons, List.length_nil, Nat.reduceAdd, Nat.reduceSub, Array.replicate_succ, Array.replicate_zero, List.push_toArray, List.append_toArray, List.nil_append, List.cons_append]
  gi_wp2_with (refine ⟨trivial, ?_⟩; gi_at_call 86; refine (bw_in Fence.wide _ trivial rfl _ _ _ _).mono ?_; rintro e w' ⟨rfl, rfl⟩)
  have bO := (Boxed.new (w.alloc (.cells #[.int .i64 1] 3)) 32 (.slice (some ⟨w.heap.size, 0, none⟩) 1 1)).alloc (.cells #[.slice A zs.length cap] 26)
  have bN := Boxed.new ((w.alloc (.cells #[.int .i64 1] 3)).alloc (.cells #[.slice (some ⟨w.heap.size, 0, none⟩) 1 1] 32)) 26 (.slice A zs.length cap)
  simp only [World.size_alloc] at bO bN
  have hB0 : Below w.heap.size w (((w.alloc (.cells #[.int .i64 1] 3)).alloc (.cells #[.slice (some ⟨w.heap.size, 0, none⟩) 1 1] 32)).alloc (.cells #[.slice A zs.length cap] 26)) := (((Below.refl _ w).alloc (Nat.le_refl _) _).alloc (by simp) _).alloc (by simp; omega) _
  have hsz : (((w.alloc (.cells #[.int .i64 1] 3)).alloc (.cells #[.slice (some ⟨w.heap.size, 0, none⟩) 1 1] 32)).alloc (.cells #[.slice A zs.length cap] 26)).heap.size = w.heap.size + 3 := by simp
  have hrow : (((w.alloc (.cells #[.int .i64 1] 3)).alloc (.cells #[.slice (some ⟨w.heap.size, 0, none⟩) 1 1] 32)).alloc (.cells #[.slice A zs.length cap] 26)).ownsRow w.heap.size 3 1 (.slice (some ⟨w.heap.size, 0, none⟩) 1 1) 1 [.int .i64 1] := by
    refine ⟨rfl, .inr ⟨w.heap.size, 1, #[.int .i64 1], rfl, Nat.le_refl _, ?_, by simp, by decide, rfl, rfl⟩⟩
    exact blk_alloc (blk_alloc (blk_new _ _) _) _
  obtain ⟨W0, hW0⟩ : ∃ W0, ((w.alloc (.cells #[.int .i64 1] 3)).alloc (.cells #[.slice (some ⟨w.heap.size, 0, none⟩) 1 1] 32)).alloc (.cells #[.slice A zs.length cap] 26) = W0 := ⟨_, rfl⟩
  rw [hW0] at bO bN hB0 hsz hrow ⊢
  clear hW0
  refine wpIn_rangeFunc_ownH rfl (by omega) (gf := 93) (lb := #[.pointer (some ⟨w.heap.size + 1 + 1, 0, none⟩)]) rfl trivial (enters_of Try.func93 (by kernel_rfl) rfl)
    (bw_stops Fence.wide _ trivial rfl (by omega) (w.heap.size + 1 + 1) cap A zs (by unfold maxLen; omega) (by omega) w W0 hB0 (by omega) bN.cell hL)
    (fun h k => KB.trans h k) (fun W l o o' hl h ho hw => ⟨belowK_b (by omega) W l o o' hl h ho hw, fun e => by
      exact Go.cell_kept e (grownBy_putObj' W l o') (fun r e' => by cases e'; exact ⟨o, h, ho⟩)⟩) (Below.refl _ _) (fun _ => rfl)
    (fun pre W => ((∃ v, Boxed W (w.heap.size + 1) 32 v ∧ W.ownsRow w.heap.size 3 1 v (out stp pre).length ((out stp pre).map (Value.int .i64)) ∧ True) ∧ Boxed W (w.heap.size + 1 + 1) 26 (.slice A zs.length cap)) ∧ Below w.heap.size w W)
    (fun _ _ _ => False)
    (OwnFrom.and (OwnFrom.and (Own.from (holdsRow_own w.heap.size (w.heap.size + 1) 32 3 1 (fun pre => (out stp pre).length) (fun pre => (out stp pre).map (Value.int .i64)) (fun _ _ => True)) _) (Own.from (boxed_own _ _ _) _)) (ownFrom_below (Nat.le_refl _) (by omega)))
    (fun _ _ _ _ _ hs _ _ => hs)
    ⟨⟨⟨_, bO, hrow, trivial⟩, bN⟩, hB0⟩
    (fun x a' W => ∃ Bx, w.heap.size + 1 + 1 < Bx ∧ W.heap[Bx]? = some (.cells #[.int .i64 x.2.1.1, .int .i64 x.2.1.2] 43 (0, 0)) ∧ a' = { tmps := #[.slice A zs.length cap, undef, .slice none 0 0, .pointer (some ⟨w.heap.size + 1, 0, none⟩), undef, .pointer (some ⟨Bx, 0, none⟩), undef, undef, undef, undef, undef, undef, undef, .slice (some ⟨w.heap.size, 0, none⟩) 1 1, .slice A zs.length cap, .func (.func 93) #[] #[.pointer (some ⟨w.heap.size + 1 + 1, 0, none⟩)], .int .i64 x.1, .agg #[.int .i64 x.2.1.1, .int .i64 x.2.1.2], undef, undef, undef, undef, undef, undef, undef, undef, undef, undef, undef, undef, undef, undef, undef, undef, undef, undef, undef, undef, undef, undef, undef, undef, undef, undef, undef, undef, undef, undef, undef, undef, undef, undef, undef, undef, undef, undef, undef, undef, undef, undef, undef, undef, undef, undef, undef, undef, undef, undef, undef, undef, undef, undef, undef, undef, undef, undef, undef, undef, undef], defers := [] })
    (fun x a' _ X Y row hs hg hr => by obtain ⟨Bx, h1, h2, h3⟩ := hs; exact ⟨Bx, h1, blk_grown h2 hg (fun e => by obtain ⟨_, o, ho, hc⟩ := hr Bx e.symm; rw [h2] at ho; cases ho; cases hc), h3⟩)
    ?assign ?body ?done ?stop
  case assign =>
    rintro l pre x W K ⟨⟨⟨v, b1, b2, _⟩, b3⟩, b4⟩ hK
    gi_wp2
    exact hK _ _ ((KeepsOthers.alloc _ _).from _) ⟨(Below.refl _ W).alloc b4.size _, fun e => Go.cell_kept e (World.grownBy_alloc W _ none) (fun r e' => by cases e')⟩ ⟨⟨⟨v, b1.alloc _, b2.alloc _, trivial⟩, b3.alloc _⟩, b4.alloc b4.size _⟩ ⟨W.heap.size, b3.lt, blk_new W _, rfl⟩
  case body =>
    rintro l pre x a' W hl ⟨r, hr⟩ ⟨⟨⟨v, b1, b2, _⟩, b3⟩, b4⟩ ⟨Bx, hBx, bX, rfl⟩ hlt
    obtain ⟨xi, ⟨⟨p, q⟩, hpg, hqg⟩⟩ := x
    dsimp only at bX hpg hqg
    have hln : (out stp pre).length = pre.length + 1 := out_length stp stp_len pre
    have hnext : out stp (pre ++ [(xi, ⟨(p, q), hpg, hqg⟩)]) = Ch.upI p q (out stp pre) := out_snoc stp pre _
    have hbd := out_bd pre (by omega)
    generalize hs : out stp pre = s at *
    obtain ⟨s0, t, rfl⟩ : ∃ s0 t, s = s0 :: t := by
      cases s with
      | nil => simp at hln
      | cons a b => exact ⟨a, b, rfl⟩
    have NUM := Aside0.mk (Ch.head_num 10000000000 s0 p q (by decide) (hbd s0 (List.mem_cons_self ..)) hpg hqg)
    have BD := Aside0.mk hbd
    have NX := Aside0.mk hnext
    have PG := Aside0.mk hpg
    have QG := Aside0.mk hqg
    clear hbd hnext
    obtain ⟨g, c, rfl⟩ := ownsRow_succ b2
    have cO := b1.cell
    have cX0 : W.cell? ⟨Bx, 0, none⟩ = some (.int .i64 p) := (blk_cell bX 0).trans rfl
    have cX1 : W.cell? ⟨Bx, 1, none⟩ = some (.int .i64 q) := (blk_cell bX 1).trans rfl
    have cG : ∀ i, i < (s0 :: t).length → W.cell? ⟨g, i, none⟩ = some (.int .i64 ((s0 :: t).getD i 0)) := by
      intro i hi
      rw [b2.cellAt i (by simp only [List.length_cons] at hi; omega), List.getElem?_map, List.getD_eq_getElem?_getD, List.getElem?_eq_getElem hi]
      rfl
    have cG0 : W.cell? ⟨g, 0, none⟩ = some (.int .i64 s0) := cG 0 (by simp)
    have hd : ∃ d : Int, (∀ W', Calls Try.prog 87 #[.int .i64 (s0 * p), .int .i64 q] W' fun e w' => e = .returned (.int .i64 d) ∧ Drawn0 W' w') ∧ Mth.g (s0 * p) q = d := ⟨_, fun W' => hD _ _ W' (by have := NUM.out.2.1; have := NUM.out.2.2.1; omega) (by have := QG.out; omega), rfl⟩
    obtain ⟨d, hd, hgd⟩ := hd
    have GD := Aside0.mk hgd
    clear hgd
    have HD : Aside0 _ := ⟨hd⟩
    have hw0 : IntKind.i64.wrap (s0 * p) = s0 * p := by rw [i64_wrap]; exact NUM.out.1
    have hn0 : 0 < (s0 :: t).length := by simp
    generalize hm : (s0 :: t).length = m at *
    have HLN := Aside0.mk hln
    clear hln
    clear hd
    have HV : Aside0 (∀ W', CallsIn (Fence.wide.inRound l) 0 Try.prog 87 #[.int .i64 (s0 * p), .int .i64 q] W' fun e w' => e = .returned (.int .i64 d) ∧ ∃ m, w' = W'.drewN m) := ⟨fun W' => (CallsIn.inRound l (callsIn_wide.2 (HD.out W'))).mono fun e w' he => ⟨he.1, he.2.out⟩⟩
    gi_wp2
    have hmx : Try.prog.follows .mixedOrders = true := by kernel_rfl
    have hde : 1 ≤ 3 - 1 - 1 := by omega
    refine Rq.region_quiet (by kernel_rfl) hmx (by kernel_rfl) ?_
    repeat (refine wpQuietIn_step (fun _ _ _ _ => trivial) (fun K hK => ?_); go_simp; first | (refine hK _ ?_; clear hK K) | (apply Exists.intro; refine ⟨fun _ => ?_, hK _ ?_⟩; exact CallsIn.quiet_of (HV.out _); clear hK K))
    refine wpQuietIn_nil ?_
    intro _ hw'
    obtain ⟨nq, hw''⟩ := hw'
    subst hw''
    have hd0 : d ≠ 0 := by have h1 := NUM.out.2.2.2.1; rw [GD.out] at h1; omega
    obtain ⟨e0, hq0⟩ : ∃ e0, IntKind.i64.wrap ((s0 * p).tdiv d) = e0 := ⟨_, rfl⟩
    obtain ⟨f0, hq1⟩ : ∃ f0, IntKind.i64.wrap (q.tdiv d) = f0 := ⟨_, rfl⟩
    gi_wp2
    refine Rq.region_quiet (by kernel_rfl) hmx (by kernel_rfl) ?_
    repeat (refine wpQuietIn_step (fun _ _ _ _ => trivial) (fun K hK => ?_); go_simp; first | (refine hK _ ?_; clear hK K) | (apply Exists.intro; refine ⟨fun _ => ?_, hK _ ?_⟩; clear hK K))
    refine wpQuietIn_nil ?_
    intro _ hw'
    obtain ⟨nq2, hw''⟩ := hw'
    subst hw''
    rw [World.drewN_drewN]
    generalize nq + nq2 = nn
    gi_wp2
    have hmL : (s0 :: t).length = m := hm
    have hml : (t.length + 1) = m := by simpa using hm
    rw [hml] at b1 b2
    rw [hml]
    have hmz : ((t.length : Int) + 1) = (m : Int) := by omega
    rw [hmz]
    gi_loopw [37] (fun v wr => ∃ i : Nat, i ≤ m ∧ v = .int .i64 i ∧ wr.ownsRow w.heap.size 3 1 (.slice (some ⟨g, 0, none⟩) m c) m ((upd (fun y => IntKind.i64.wrap (y * f0)) (s0 :: t) i).map (Value.int .i64)) ∧ Boxed wr (w.heap.size + 1) 32 (.slice (some ⟨g, 0, none⟩) m c) ∧ Boxed wr (w.heap.size + 1 + 1) 26 (.slice A zs.length cap) ∧ wr.heap[Bx]? = some (.cells #[.int .i64 p, .int .i64 q] 43 (0, 0)) ∧ Below w.heap.size W wr ∧ KeepsFrom W0.heap.size W wr)
      (fun v _ => m - (intOf v).toNat)
    case atStart => exact ⟨0, Nat.zero_le _, rfl, by rw [upd_zero]; exact pw_own_drewN b2 _, b1, b3, bX, pw_below_drewN (Below.refl _ _) nn, ⟨Nat.le_refl _, fun k o _ hk _ => hk⟩⟩
    case round =>
      obtain ⟨i, hi, rfl, k1, k2, k3, k4, k5, k6⟩ := hrel
      by_cases hlt2 : i < m
      · have hltz : (i : Int) < (m : Int) := by omega
        have cO2 := k2.cell
        have cY1 : wr.cell? ⟨Bx, 1, none⟩ = some (.int .i64 q) := (blk_cell k4 1).trans rfl
        obtain ⟨y, hyd⟩ : ∃ y, (s0 :: t).getD i 0 = y := ⟨_, rfl⟩
        have hy : wr.cell? ⟨g, i, none⟩ = some (.int .i64 y) := by rw [k1.cellAt i (by omega), List.getElem?_map, upd_get _ _ _ (by rw [hmL]; exact hlt2), hyd]; rfl
        have hyf : wr.frozen? ⟨g, i, none⟩ = false := k1.frozenAt i
        obtain ⟨y2, hy2⟩ : ∃ y2, IntKind.i64.wrap (y * f0) = y2 := ⟨_, rfl⟩
        gi_wp2
        refine Rq.region_last 10 rfl (by kernel_rfl) hmx (by kernel_rfl) (by kernel_rfl) (by kernel_rfl) ?_
        simp only [List.take]
        repeat (refine wpQuietIn_step (fun _ _ _ _ => trivial) (fun K hK => ?_); go_simp; first | (refine hK _ ?_; clear hK K) | (apply Exists.intro; refine ⟨fun _ => ?_, hK _ ?_⟩; clear hK K))
        refine wpQuietIn_nil ?_
        intro _ hw'
        obtain ⟨nq3, hw''⟩ := hw'
        subst hw''
        simp only [wpOpIn]
        go_simp
        have hm63 : (m : Int) < 1000 := by have := HLN.out; omega
        gi_wp2
        go_roundw
        case rel =>
          have hgr := ((pw_own_drewN k1 nq3).stored i (.int .i64 y2)).2
          have hgg : w.heap.size ≤ g := by
            rcases k1.2 with ⟨h', _⟩ | ⟨g', _, _, h', hbg, _⟩
            · simp at h'
            · simp at h'; omega
          refine ⟨i + 1, by omega, by simp, ?_, ?_, ?_, ?_, ?_, ?_⟩
          · have h1 := ((pw_own_drewN k1 nq3).stored i (.int .i64 y2)).1
            rw [← List.map_set, ← hy2, ← hyd] at h1
            have h2 := upd_set (fun y => IntKind.i64.wrap (y * f0)) (s0 :: t) i (by rw [hmL]; exact hlt2)
            rw [h2, hyd, hy2] at h1
            exact h1
          · exact Boxed.kept (W := wr.drewN nq3) k2 hgr (k2.not_row (by decide) k1)
          · exact Boxed.kept (W := wr.drewN nq3) k3 hgr (k3.not_row (by decide) k1)
          · exact blk_grown (w := wr.drewN nq3) k4 hgr (own_ne k1 k4 (by decide))
          · exact (pw_below_drewN k5 nq3).setCell (p := ⟨g, i, none⟩) hgg _
          · exact (k6.trans (⟨Nat.le_refl _, fun k o _ hk _ => hk⟩ : KeepsFrom _ wr (wr.drewN nq3))).trans ((KeepsOthers.setCell (wr.drewN nq3) _ _).from _)
        case measure => simp [intOf]; omega
      · obtain rfl : i = m := by omega
        have cO3 := k2.cell
        have cO4 := (k2.alloc (.cells #[.int .i64 e0] 3)).cell
        rw [← hmL, upd_all, hmL] at k1
        have hwr : w.heap.size ≤ wr.heap.size := Nat.le_trans b4.size k5.size
        have hnew : (wr.alloc (.cells #[.int .i64 e0] 3)).ownsRow w.heap.size 3 1 (.slice (some ⟨wr.heap.size, 0, none⟩) 1 1) 1 [.int .i64 e0] :=
          ⟨rfl, .inr ⟨wr.heap.size, 1, #[.int .i64 e0], rfl, hwr, blk_new _ _, by simp, by decide, rfl, rfl⟩⟩
        have hold := k1.alloc (.cells #[.int .i64 e0] 3)
        obtain ⟨i0, hi0, hz0, hz1, hz2⟩ := info_parts P.info3
        have hi8 : i ≤ 8 := by have := HLN.out; omega
        have hu32 : Try.prog.underlying 32 = some (.slice 3) := by kernel_rfl
        have hneB : ∀ n c : Nat, some (w.heap.size + 1) ≠ (Value.slice (some ⟨wr.heap.size, 0, none⟩) n c).ownBlock := fun n c e => by have := k2.lt; simp [Value.ownBlock] at e; omega
        have HNEW := Aside0.mk hnew
        have HOLD := Aside0.mk hold
        clear hnew hold
        gi_wp2_with (gi_at_builtin; refine wpListIn_append_own _ rfl _ _ 32 rfl w.heap.size 3 i0 (.int .i64 0) 1 8 hu32 hi0 hz0 hz1 hz2 rfl (by decide) _ _ _ rfl HNEW.out ⟨g, 0, none⟩ i c (((s0 :: t).map (fun y => IntKind.i64.wrap (y * f0))).map (Value.int .i64)) rfl (by simp; omega) (HOLD.out.cells rfl) (by intro u hu; obtain ⟨z, _, rfl⟩ := List.mem_map.1 hu; rfl) (by unfold maxLen; omega) (by omega) (by simp; omega) ?_; intro v' w1 hown' hgrow _; rw [Nat.add_comm 1 i] at hown'; obtain ⟨g', cap', rfl⟩ := ownsRow_succ hown'; have hb1 := Boxed.kept (k2.alloc _) hgrow (hneB _ _); have cw := hb1.cell; have fw := hb1.frozen; have B1 := Aside0.mk hb1; have O1 := Aside0.mk hown'; have G1 := Aside0.mk hgrow; clear hb1 hown' hgrow)
        have G2 : (wr.alloc (.cells #[.int .i64 e0] 3)).grownBy w1 (some wr.heap.size) := G1.out
        obtain ⟨R, hR⟩ : ∃ R, e0 :: (s0 :: t).map (fun y => IntKind.i64.wrap (y * f0)) = R := ⟨_, rfl⟩
        have hRup : R = Ch.up p q (s0 :: t) := hR.symm.trans (up_eq s0 p q d e0 f0 t hpg hqg BD.out GD.out hq0 hq1)
        have hRl : R.length = i + 1 := by rw [← hR, List.length_cons, List.length_map, hmL]
        have hRb : Ch.Bd 1000000000000 R := by rw [hRup]; exact Ch.up_bd 10000000000 p q (s0 :: t) hpg hqg BD.out (by simp)
        have O2 : Aside0 (w1.ownsRow w.heap.size 3 1 (.slice (some ⟨g', 0, none⟩) (i + 1) cap') (i + 1) (R.map (Value.int .i64))) := ⟨by rw [← hR]; exact O1.out⟩
        have kb := Aside0.mk (B1.out.set (.slice (some ⟨g', 0, none⟩) (i + 1) cap'))
        have ko := Aside0.mk (O2.out.kept (grownBy_setCell' w1 (w.heap.size + 1) (.slice (some ⟨g', 0, none⟩) (i + 1) cap')) (.inr (B1.out.not_row (by decide) O2.out).symm))
        have kx := Aside0.mk (((k3.alloc _).kept G2 (fun e => by have := k3.lt; have := Option.some.inj e; omega)).other (B' := w.heap.size + 1) (by omega) (.slice (some ⟨g', 0, none⟩) (i + 1) cap'))
        have kk : Aside0 (KeepsFrom W0.heap.size W (w1.setCell ⟨w.heap.size + 1, 0, none⟩ (.slice (some ⟨g', 0, none⟩) (i + 1) cap'))) := ⟨k6.trans ((((KeepsOthers.alloc wr (.cells #[.int .i64 e0] 3)).trans (KeepsOthers.of_grownBy G2 fun j o ej hj => by cases ej; rw [blk_new] at hj; cases hj; rfl)).trans (KeepsOthers.setCell _ _ _)).from _)⟩
        have kl : Aside0 (Below w.heap.size W (w1.setCell ⟨w.heap.size + 1, 0, none⟩ (.slice (some ⟨g', 0, none⟩) (i + 1) cap'))) := ⟨k5.trans ((((Below.refl _ wr).alloc hwr _).grown G2 (by simp; omega) fun j ej => by cases ej; exact hwr).setCell (p := ⟨w.heap.size + 1, 0, none⟩) (by simp) _)⟩
        have RL := Aside0.mk hRl
        have RB := Aside0.mk hRb
        have RU := Aside0.mk hRup
        clear hRl hRb hRup hR cO4 cO3
        clear B1 O1 O2 HNEW HOLD
        have cB := kb.out.cell
        generalize w1.setCell ⟨w.heap.size + 1, 0, none⟩ (.slice (some ⟨g', 0, none⟩) (i + 1) cap') = W2 at *
        gi_loopw [9, 57] (fun v9 v57 wr => ∃ i2 : Nat, i2 ≤ i + 1 ∧ v57 = .int .i64 i2 ∧ v9 = .int .i64 (Ch.gl (R.take i2)) ∧ Aside0 (wr.ownsRow w.heap.size 3 1 (.slice (some ⟨g', 0, none⟩) (i + 1) cap') (i + 1) (R.map (Value.int .i64))) ∧ Aside0 (Boxed wr (w.heap.size + 1) 32 (.slice (some ⟨g', 0, none⟩) (i + 1) cap')) ∧ Aside0 (Boxed wr (w.heap.size + 1 + 1) 26 (.slice A zs.length cap)) ∧ Aside0 (Below w.heap.size W wr) ∧ Aside0 (KeepsFrom W0.heap.size W wr))
          (fun v9 v57 _ => i + 1 - (intOf v57).toNat)
        case atStart => exact ⟨0, by omega, rfl, rfl, ko, kb, kx, kl, kk⟩
        case round =>
          obtain ⟨i2, hi2, rfl, rfl, l1, l2, l3, l4, l5⟩ := hrel
          by_cases hlt3 : i2 < i + 1
          · have hltz3 : (i2 : Int) < (i : Int) + 1 := by omega
            obtain ⟨x, hxd⟩ : ∃ x, R.getD i2 0 = x := ⟨_, rfl⟩
            have hx : wr.cell? ⟨g', i2, none⟩ = some (.int .i64 x) := by rw [l1.out.cellAt i2 (by omega), List.getElem?_map, ← hxd, List.getD_eq_getElem?_getD, List.getElem?_eq_getElem (by rw [RL.out]; exact hlt3)]; rfl
            have hgl := Ch.gl_take R i2 (by rw [RL.out]; exact hlt3)
            rw [hxd] at hgl
            have hb1 := Ch.gls_bd 1000000000000 (by decide) (R.take i2) (fun z hz => RB.out z (List.mem_of_mem_take hz))
            have hb2 : 1 ≤ x ∧ x ≤ 1000000000000 := RB.out x (by rw [← hxd, List.getD_eq_getElem?_getD, List.getElem?_eq_getElem (by rw [RL.out]; exact hlt3)]; exact List.getElem_mem _)
            have HC := Aside0.mk (fun W' => hD (Ch.gl (R.take i2)) x W' (by omega) (by omega))
            have GL := Aside0.mk hgl
            have hi8' := HLN.out
            have hw2 : IntKind.i64.wrap ((i2 : Int) + 1) = (i2 : Int) + 1 := by rw [i64_wrap]; exact E.w64 _ (by omega)
            clear hgl hb1 hb2 hi8'
            generalize Ch.gl (R.take i2) = a2 at HC GL ⊢
            gi_wp2_with (refine ⟨trivial, ?_⟩; gi_at_call 87; refine (CallsIn.inRound l (callsIn_wide.2 (HC.out _))).mono ?_; rintro e w' ⟨rfl, hd⟩; obtain ⟨nq4, rfl⟩ := hd.out)
            go_roundw
            case rel => exact ⟨i2 + 1, by omega, by simp, by rw [GL.out], ⟨pw_own_drewN l1.out _⟩, ⟨l2.out⟩, ⟨l3.out⟩, ⟨pw_below_drewN l4.out _⟩, ⟨l5.out.trans (⟨Nat.le_refl _, fun k o _ hk _ => hk⟩ : KeepsFrom _ wr (wr.drewN nq4))⟩⟩
            case measure => simp [intOf]; omega
          · obtain rfl : i2 = i + 1 := by omega
            rw [List.take_of_length_le (by rw [RL.out]; exact Nat.le_refl _)]
            have hall := Ch.gls_bd 1000000000000 (by decide) R RB.out
            have hal1 := Ch.gl_pos R RB.out.pos (by rw [RU.out]; simp [Ch.up])
            obtain ⟨al, hal⟩ : ∃ al, Ch.gl R = al := ⟨_, rfl⟩
            rw [hal] at hall hal1 ⊢
            have hal0 : al ≠ 0 := by omega
            have AL := Aside0.mk hal
            clear hall hal1 hal
            have cB2 := l2.out.cell
            gi_wp2
            gi_loopw [67] (fun v67 wr => ∃ i3 : Nat, i3 ≤ i + 1 ∧ v67 = .int .i64 i3 ∧ Aside0 (wr.ownsRow w.heap.size 3 1 (.slice (some ⟨g', 0, none⟩) (i + 1) cap') (i + 1) ((upd (fun y => IntKind.i64.wrap (y.tdiv al)) R i3).map (Value.int .i64))) ∧ Aside0 (Boxed wr (w.heap.size + 1) 32 (.slice (some ⟨g', 0, none⟩) (i + 1) cap')) ∧ Aside0 (Boxed wr (w.heap.size + 1 + 1) 26 (.slice A zs.length cap)) ∧ Aside0 (Below w.heap.size W wr) ∧ Aside0 (KeepsFrom W0.heap.size W wr))
              (fun v67 _ => i + 1 - (intOf v67).toNat)
            case atStart => exact ⟨0, by omega, rfl, by rw [upd_zero]; exact l1, l2, l3, l4, l5⟩
            case round =>
              obtain ⟨i3, hi3, rfl, m1, m2, m3, m4, m5⟩ := hrel
              have RL' := RL.out
              by_cases hlt4 : i3 < i + 1
              · have hltz4 : (i3 : Int) < (i : Int) + 1 := by omega
                have cO5 := m2.out.cell
                obtain ⟨y, hyd⟩ : ∃ y, R.getD i3 0 = y := ⟨_, rfl⟩
                have hy : wr.cell? ⟨g', i3, none⟩ = some (.int .i64 y) := by rw [m1.out.cellAt i3 (by omega), List.getElem?_map, upd_get _ _ _ (by omega), hyd]; rfl
                have hyf : wr.frozen? ⟨g', i3, none⟩ = false := m1.out.frozenAt i3
                obtain ⟨y2, hy2⟩ : ∃ y2, IntKind.i64.wrap (y.tdiv al) = y2 := ⟨_, rfl⟩
                have hw3 : IntKind.i64.wrap ((i3 : Int) + 1) = (i3 : Int) + 1 := by rw [i64_wrap]; exact E.w64 _ (by have := HLN.out; omega)
                clear RL'
                gi_wp2
                go_roundw
                case rel =>
                  have st := m1.out.stored i3 (.int .i64 y2)
                  have hgr := st.2
                  have hgg : w.heap.size ≤ g' := by
                    rcases m1.out.2 with ⟨h', _⟩ | ⟨g', _, _, h', hbg, _⟩
                    · simp at h'
                    · simp at h'; omega
                  refine ⟨i3 + 1, by omega, by simp, ?_, ?_, ?_, ?_, ?_⟩
                  · have h1 := st.1
                    rw [← List.map_set, ← hy2, ← hyd] at h1
                    have h2 := upd_set (fun y => IntKind.i64.wrap (y.tdiv al)) R i3 (by rw [RL.out]; exact hlt4)
                    rw [h2, hyd, hy2] at h1
                    exact ⟨h1⟩
                  · exact ⟨Boxed.kept m2.out hgr (m2.out.not_row (by decide) m1.out)⟩
                  · exact ⟨Boxed.kept m3.out hgr (m3.out.not_row (by decide) m1.out)⟩
                  · exact ⟨m4.out.setCell (p := ⟨g', i3, none⟩) hgg _⟩
                  · exact ⟨m5.out.trans ((KeepsOthers.setCell wr _ _).from _)⟩
                case measure => simp [intOf]; omega
              · obtain rfl : i3 = i + 1 := by omega
                have hend : upd (fun y => IntKind.i64.wrap (y.tdiv al)) R (i + 1) = out stp (pre ++ [(xi, ⟨(p, q), hpg, hqg⟩)]) := by
                  rw [NX.out, ← RL', upd_all]
                  simp only [i64_wrap]
                  rw [← AL.out, Ch.end_num 1000000000000 R (by decide) RB.out (by intro e; rw [e] at RL'; simp at RL')]
                  rw [RU.out]
                  rfl
                have hlen2 : (out stp (pre ++ [(xi, ⟨(p, q), hpg, hqg⟩)])).length = i + 1 := by rw [← hend, upd_len, RL']
                clear RL'
                rw [hend] at m1
                gi_wp2
                refine ⟨m5.out, ⟨?_, ?_⟩, ⟨⟨_, m2.out, ?_, trivial⟩, m3.out⟩, ?_⟩
                · exact m4.out
                · exact fun _ => m3.out.cell
                · rw [hlen2]; exact m1.out
                · exact b4.trans m4.out
  case done =>
    rintro D ys W hD rfl ⟨⟨⟨v, b1, b2, _⟩, b3⟩, b4⟩ hK
    have cS := b1.cell
    gi_wp2
    refine ⟨by simp, .inl ⟨_, _, rfl, run_takeDeferred hK, ?_⟩⟩
    have hln : (out stp (dn zs zs.length)).length = zs.length + 1 := by rw [out_length stp stp_len, dn_length]
    rw [hln] at b2
    exact ⟨_, results_tmp rfl _ _ _, v, rfl, ownsRow_putObj b2 _ hK rfl, b4.trans (belowK_b (w := w) (Nat.le_refl _) W D _ _ (by omega) hK rfl rfl)⟩
  case stop =>
    rintro D c pre W _ _ h _
    exact h.elim
theorem foldr_out : ∀ (zs : List PR), out stp (dn zs zs.length) = zs.foldr (fun x s => stp s x) [1] := by
  intro zs
  have h : (dn zs zs.length).map (·.2) = zs.reverse := by
    apply List.ext_getElem
    · simp [dn]
    · intro i h1 h2
      simp only [List.length_map, dn_length] at h1
      simp [dn, at_, List.getElem_reverse, List.getD_eq_getElem?_getD, List.getElem?_eq_getElem (show zs.length - 1 - i < zs.length by omega)]
  have h2 : out stp (dn zs zs.length) = ((dn zs zs.length).map (·.2)).foldl stp [1] := by unfold out; rw [List.foldl_map]
  rw [h2, h, List.foldl_reverse]
end Bw
def impl_leastChain.one (x : S43) : Bool := decide ((1 ≤ x.f0 ∧ x.f0 ≤ 100) ∧ 1 ≤ x.f1 ∧ x.f1 ≤ 100)
/-- The least whole ages of a chain: the later ones first. -/
def impl_leastChain.least (l0 : List S43) : List Int := l0.foldr (fun x s => Ch.upI x.f0 x.f1 s) [1]
def impl_leastChain.f (l0 : List S43) : Option (List Int) := if (decide (l0.length ≤ 6) && l0.all impl_leastChain.one) = true then some (impl_leastChain.least l0) else none
theorem impl_leastChain.fold (l0 : List S43) (h : ∀ x ∈ l0, (1 ≤ x.f0 ∧ x.f0 ≤ 100) ∧ 1 ≤ x.f1 ∧ x.f1 ≤ 100) : (l0.pmap (fun x hx => (⟨(x.f0, x.f1), hx⟩ : Bw.PR)) h).foldr (fun x s => Bw.stp s x) [1] = impl_leastChain.least l0 := by
  induction l0 with
  | nil => rfl
  | cons x l0 ih =>
    have := ih fun y hy => h y (List.mem_cons_of_mem _ hy)
    rw [List.pmap_cons, List.foldr_cons, this]
    rfl
theorem impl_leastChain.least_len (l0 : List S43) : (impl_leastChain.least l0).length = l0.length + 1 := by
  induction l0 with
  | nil => rfl
  | cons x l ih => show (Ch.upI x.f0 x.f1 (impl_leastChain.least l)).length = _; rw [Ch.upI_len, ih]; rfl
theorem impl_leastChain.calls (A0 : Option Addr) (c0 : Nat) (l0 : List S43) (r : List Int) (w : World) (hr0 : Kd.C k43 w A0 l0.length l0) (hc0 : l0.length ≤ c0) (h : impl_leastChain.f l0 = some r) :
    Calls Try.prog 64 #[.slice A0 l0.length c0] w fun e w' => ∃ v0_ : Value, e = .returned v0_ ∧ Kd.R (Kd.int .i64) 3 w' w.heap.size (fun _ => True) v0_ r ∧ Below w.heap.size w w' := by
  unfold impl_leastChain.f at h
  split at h
  · rename_i hc
    obtain rfl := Option.some.inj h
    obtain ⟨h6, hall⟩ := Bool.and_eq_true_iff.1 hc
    have h6 := of_decide_eq_true h6
    have hg : ∀ x ∈ l0, (1 ≤ x.f0 ∧ x.f0 ≤ 100) ∧ 1 ≤ x.f1 ∧ x.f1 ≤ 100 := fun x hx => of_decide_eq_true (List.all_eq_true.1 hall x hx)
    have hl : (l0.pmap (fun x hx => (⟨(x.f0, x.f1), hx⟩ : Bw.PR)) hg).length = l0.length := List.length_pmap ..
    have hL : Bw.Lies w A0 (l0.pmap (fun x hx => (⟨(x.f0, x.f1), hx⟩ : Bw.PR)) hg) := by
      intro j hj
      rw [hl] at hj
      obtain ⟨ad, HA, hcell0, hcell1⟩ := at_T43 hr0 (j : Int) (by omega) (by omega)
      have hrd : rd_T43 l0 (j : Int) = l0[j] := by simp [rd_T43, List.getD_eq_getElem?_getD, List.getElem?_eq_getElem hj]
      rw [hrd, Int.toNat_natCast] at hcell0 hcell1
      have hgd : (l0.pmap (fun x hx => (⟨(x.f0, x.f1), hx⟩ : Bw.PR)) hg).getD j Bw.pr0 = ⟨(l0[j].f0, l0[j].f1), hg _ (List.getElem_mem hj)⟩ := by
        rw [List.getD_eq_getElem?_getD, List.getElem?_eq_getElem (by rw [hl]; exact hj), Option.getD_some, List.getElem_pmap]
      refine ⟨ad, HA, ?_, ?_⟩
      · rw [hgd]; exact hcell0
      · rw [hgd]; exact hcell1
    have hm := Bw.leastChain A0 c0 _ (by rw [hl]; exact h6) w hL (fun a b W ha hb => Bw.divisor a b W ha hb)
    rw [Bw.foldr_out, impl_leastChain.fold l0 hg, hl] at hm
    refine hm.mono ?_
    rintro e w' ⟨v, rfl, ho, hb⟩
    refine ⟨v, rfl, ?_, hb⟩
    have hlen := impl_leastChain.least_len l0
    rw [← hlen] at ho
    exact Kd.R_of_own ho (fun _ _ => trivial)
  · cases h

end Go.Proofs.Ytnbolemfldmohaa.P
