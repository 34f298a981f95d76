/- Calls of the functions of the given program return what the plain Lean functions of the same names return; and a row of a law out of its pure statement. Written by a program of this session out of the translation; Lean checks it. No condition. -/
import Derived.Test.YtnbolemfldmohaaPx0
import Derived.Test.YtnbolemfldmohaaCt
import Derived.Test.YtnbolemfldmohaaPx2
import Derived.Test.YtnbolemfldmohaaPx3
namespace Go.Proofs.Ytnbolemfldmohaa.P
open Go.RowKit Go.Proofs.YtnbolemfldmohaaW.PrintWords Go.Proofs.YtnbolemfldmohaaW.PrintLast Go.Proofs.YtnbolemfldmohaaW.PrintMore
attribute [local go_sem] max2_int min2_int max_two min_two max_three min_three max_four min_four   -- for this text's walks alone
set_option linter.unusedVariables false
set_option linter.unusedSimpArgs false

/-! ### laws_gLow: function 38 -/
mutual
def laws_gLow.j0 : Nat → Int → Int → Option (Bool)
 | 0, _, _ => none
 | k + 1, x5, x6 => laws_gLow.l0 k x5 x6
def laws_gLow.l0 : Nat → Int → Int → Option (Bool)
 | 0, _, _ => none
 | k + 1, x5, x6 => if x6 > 0 then (if x6 = 0 then (none) else (laws_gLow.l0 k x6 (Int.tmod x5 x6))) else (some (x5 == 1))
end
def laws_gLow.f (k : Nat) (a0 : Int) (a1 : Int) : Option (Bool) := if a1 < 1 then (some false) else (if a0 < 0 then (laws_gLow.j0 k (wrap64 (-a0)) a1) else (laws_gLow.j0 k a0 a1))
set_option maxHeartbeats 8000000 in
set_option maxRecDepth 100000 in
theorem laws_gLow.calls (k : Nat) (a0 : Int) (a1 : Int) (r : Bool) (w : World) (h : laws_gLow.f k a0 a1 = some r) :
  Calls Try.prog 38 #[.int .i64 a0, .int .i64 a1] w fun e w' => e = .returned (.bool r) ∧ Drawn0 w w' := by
 have H : (if a1 < 1 then (some false) else (if a0 < 0 then (laws_gLow.j0 k (wrap64 (-a0)) a1) else (laws_gLow.j0 k a0 a1))) = some r := h
 clear h
 by_cases c3 : a1 < 1
 ·rw [if_pos c3] at H
  have c3b0 : decide (a1 < 1) = true := decide_eq_true c3
  clear c3
  obtain rfl := Option.some.inj H
  go_enter Try.func38, Try.ntmps38
  go_wp2
  repeat (go_quiet (fail); try go_wp2)
  go_ret
  exact ⟨by first | rfl | (simp; done) | (simp [*]; done), by repeat (first | exact Drawn0.refl _ | apply Drawn0.step)⟩
 ·rw [if_neg c3] at H
  have c3b0 : decide (a1 < 1) = false := decide_eq_false c3
  clear c3
  have HC4 := Aside0.mk H
  clear H
  go_enter Try.func38, Try.ntmps38
  go_upto_if 12 with (fail)
  repeat (go_quiet (fail); go_upto_if 12 with (fail))
  go_cut [5] from 12 to 12 (fun v5 wc => ∃ (kq : Nat) (x5_3 : Int), v5 = .int .i64 x5_3 ∧ Aside0 (laws_gLow.j0 kq x5_3 a1 = some r) ∧ Aside0 (kq ≤ k) ∧ Drawn0 w wc)
  case first =>
   have H := HC4.out
   clear HC4
   by_cases c5 : a0 < 0
   ·rw [if_pos c5] at H
    have c5b0 : decide (a0 < 0) = true := decide_eq_true c5
    clear c5
    (first | rw [c5b0] | (simp only [i64_w, i32_w]; rw [c5b0]) | skip)
    have H' := Aside0.mk H
    clear H
    go_wp2
    repeat (go_quiet (fail); try go_wp2)
    go_meet
    case rel => exact ⟨_, (wrap64 (-a0)), (by first | rfl | (simp; done) | (simp [*]; done)), H', ⟨by first | omega | exact Nat.le_refl _⟩, by repeat (first | exact Drawn0.refl _ | apply Drawn0.step)⟩
   ·rw [if_neg c5] at H
    have c5b0 : decide (a0 < 0) = false := decide_eq_false c5
    clear c5
    (first | rw [c5b0] | (simp only [i64_w, i32_w]; rw [c5b0]) | skip)
    have H' := Aside0.mk H
    clear H
    go_wp2
    repeat (go_quiet (fail); try go_wp2)
    go_meet
    case rel => exact ⟨_, (a0), (by first | rfl | (simp; done) | (simp [*]; done)), H', ⟨by first | omega | exact Nat.le_refl _⟩, by repeat (first | exact Drawn0.refl _ | apply Drawn0.step)⟩
  case rest =>
   clear HC4
   try clear c3
   try clear c3b0
   obtain ⟨kq, x5_3, rfl, HA, HJ3, ⟨mc3, rfl⟩⟩ := hcut
   cases kq with
   | zero => exact absurd HA.out (by simp [laws_gLow.j0])
   | succ kj3 =>
    have H := HA.out
    clear HA
    simp only [laws_gLow.j0] at H
    have H' := Aside0.mk H
    clear H
    go_wp2
    repeat (go_quiet (fail); try go_wp2)
    go_loopg [5, 6] kj3 (fun kq v5 v6 w' => ∃ (x5_2 : Int) (x6_2 : Int), v5 = .int .i64 x5_2 ∧ v6 = .int .i64 x6_2 ∧ Aside0 (laws_gLow.l0 kq x5_2 x6_2 = some r) ∧ Aside0 (kq ≤ kj3) ∧ Drawn0 w w')
    case atStart => exact ⟨(x5_3), (a1), (by first | rfl | (simp; done) | (simp [*]; done)), (by first | rfl | (simp; done) | (simp [*]; done)), H', ⟨Nat.le_refl _⟩, by repeat (first | exact Drawn0.refl _ | apply Drawn0.step)⟩
    case round =>
     clear H'
     try clear c3
     try clear c3b0
     obtain ⟨x5_2, x6_2, rfl, rfl, HA, HK2, ⟨m2, rfl⟩⟩ := hrel
     cases gk with
     | zero => exact absurd HA.out (by simp [laws_gLow.l0])
     | succ k2 =>
      have H := HA.out
      clear HA
      simp only [laws_gLow.l0] at H
      by_cases c6 : x6_2 > 0
      ·rw [if_pos c6] at H
       have c6b0 : decide (0 < x6_2) = true := decide_eq_true c6
       clear c6
       by_cases c7 : x6_2 = 0
       ·rw [if_pos c7] at H
        exact absurd H (by simp)
       ·rw [if_neg c7] at H
        have c7b0 : (x6_2 == 0) = false := beq_eq_false_iff_ne.mpr c7
        have c7b1 : (x6_2 != 0) = true := bne_iff_ne.mpr c7
        have H' := Aside0.mk H
        clear H
        go_wp2
        repeat (go_quiet (fail); try go_wp2)
        go_roundg k2
        case measure => have := HJ3.out; have := HK2.out; omega
        case rel => exact ⟨(x6_2), (Int.tmod x5_2 x6_2), (by first | rfl | (simp; done) | (simp [*]; done)), (by first | rfl | (simp; done) | (simp [*]; done)), H', ⟨by have := HJ3.out; have := HK2.out; omega⟩, by repeat (first | exact Drawn0.refl _ | apply Drawn0.step)⟩
      ·rw [if_neg c6] at H
       have c6b0 : decide (0 < x6_2) = false := decide_eq_false c6
       clear c6
       obtain rfl := Option.some.inj H
       go_wp2
       repeat (go_quiet (fail); try go_wp2)
       go_ret
       exact ⟨by first | rfl | (simp; done) | (simp [*]; done), by repeat (first | exact Drawn0.refl _ | apply Drawn0.step)⟩

/-! ### laws_gThree: function 39 -/
mutual
def laws_gThree.l0 : Nat → Int → Int → Int → Option (Int)
 | 0, _, _, _ => none
 | k + 1, x0, x1, x2 => if x1 > 0 then (if x1 = 0 then (none) else (laws_gThree.l0 k x1 (Int.tmod x0 x1) x2)) else (laws_gThree.l1 k x0 x2)
def laws_gThree.l1 : Nat → Int → Int → Option (Int)
 | 0, _, _ => none
 | k + 1, x0, x2 => if x2 > 0 then (if x2 = 0 then (none) else (laws_gThree.l1 k x2 (Int.tmod x0 x2))) else (some x0)
end
def laws_gThree.f (k : Nat) (a0 : Int) (a1 : Int) (a2 : Int) : Option (Int) := laws_gThree.l0 k a0 a1 a2
set_option maxHeartbeats 8000000 in
set_option maxRecDepth 100000 in
theorem laws_gThree.calls (k : Nat) (a0 : Int) (a1 : Int) (a2 : Int) (r : Int) (w : World) (h : laws_gThree.f k a0 a1 a2 = some r) :
  Calls Try.prog 39 #[.int .i64 a0, .int .i64 a1, .int .i64 a2] w fun e w' => e = .returned (.int .i64 r) ∧ Drawn0 w w' := by
 have H : (laws_gThree.l0 k a0 a1 a2) = some r := h
 clear h
 have H' := Aside0.mk H
 clear H
 go_enter Try.func39, Try.ntmps39
 go_wp2
 repeat (go_quiet (fail); try go_wp2)
 go_loopg [0, 1] k (fun kq v0 v1 w' => ∃ (x0_1 : Int) (x1_1 : Int), v0 = .int .i64 x0_1 ∧ v1 = .int .i64 x1_1 ∧ Aside0 (laws_gThree.l0 kq x0_1 x1_1 a2 = some r) ∧ Aside0 (kq ≤ k) ∧ Drawn0 w w')
 case atStart => exact ⟨(a0), (a1), (by first | rfl | (simp; done) | (simp [*]; done)), (by first | rfl | (simp; done) | (simp [*]; done)), H', ⟨Nat.le_refl _⟩, by repeat (first | exact Drawn0.refl _ | apply Drawn0.step)⟩
 case round =>
  clear H'
  obtain ⟨x0_1, x1_1, rfl, rfl, HA, HK1, ⟨m1, rfl⟩⟩ := hrel
  cases gk with
  | zero => exact absurd HA.out (by simp [laws_gThree.l0])
  | succ k1 =>
   have H := HA.out
   clear HA
   simp only [laws_gThree.l0] at H
   by_cases c4 : x1_1 > 0
   ·rw [if_pos c4] at H
    have c4b0 : decide (0 < x1_1) = true := decide_eq_true c4
    clear c4
    by_cases c5 : x1_1 = 0
    ·rw [if_pos c5] at H
     exact absurd H (by simp)
    ·rw [if_neg c5] at H
     have c5b0 : (x1_1 == 0) = false := beq_eq_false_iff_ne.mpr c5
     have c5b1 : (x1_1 != 0) = true := bne_iff_ne.mpr c5
     have H' := Aside0.mk H
     clear H
     go_wp2
     repeat (go_quiet (fail); try go_wp2)
     go_roundg k1
     case measure => have := HK1.out; omega
     case rel => exact ⟨(x1_1), (Int.tmod x0_1 x1_1), (by first | rfl | (simp; done) | (simp [*]; done)), (by first | rfl | (simp; done) | (simp [*]; done)), H', ⟨by have := HK1.out; omega⟩, by repeat (first | exact Drawn0.refl _ | apply Drawn0.step)⟩
   ·rw [if_neg c4] at H
    have c4b0 : decide (0 < x1_1) = false := decide_eq_false c4
    clear c4
    have H' := Aside0.mk H
    clear H
    go_wp2
    repeat (go_quiet (fail); try go_wp2)
    go_loopg [0, 2] k1 (fun kq v0 v2 w' => ∃ (x0_2 : Int) (x2_2 : Int), v0 = .int .i64 x0_2 ∧ v2 = .int .i64 x2_2 ∧ Aside0 (laws_gThree.l1 kq x0_2 x2_2 = some r) ∧ Aside0 (kq ≤ k1) ∧ Drawn0 w w')
    case atStart => exact ⟨(x0_1), (a2), (by first | rfl | (simp; done) | (simp [*]; done)), (by first | rfl | (simp; done) | (simp [*]; done)), H', ⟨Nat.le_refl _⟩, by repeat (first | exact Drawn0.refl _ | apply Drawn0.step)⟩
    case round =>
     clear H'
     try clear c4
     try clear c4b0
     obtain ⟨x0_2, x2_2, rfl, rfl, HA, HK2, ⟨m2, rfl⟩⟩ := hrel
     cases gk with
     | zero => exact absurd HA.out (by simp [laws_gThree.l1])
     | succ k2 =>
      have H := HA.out
      clear HA
      simp only [laws_gThree.l1] at H
      by_cases c6 : x2_2 > 0
      ·rw [if_pos c6] at H
       have c6b0 : decide (0 < x2_2) = true := decide_eq_true c6
       clear c6
       by_cases c7 : x2_2 = 0
       ·rw [if_pos c7] at H
        exact absurd H (by simp)
       ·rw [if_neg c7] at H
        have c7b0 : (x2_2 == 0) = false := beq_eq_false_iff_ne.mpr c7
        have c7b1 : (x2_2 != 0) = true := bne_iff_ne.mpr c7
        have H' := Aside0.mk H
        clear H
        go_wp2
        repeat (go_quiet (fail); try go_wp2)
        go_roundg k2
        case measure => have := HK1.out; have := HK2.out; omega
        case rel => exact ⟨(x2_2), (Int.tmod x0_2 x2_2), (by first | rfl | (simp; done) | (simp [*]; done)), (by first | rfl | (simp; done) | (simp [*]; done)), H', ⟨by have := HK1.out; have := HK2.out; omega⟩, by repeat (first | exact Drawn0.refl _ | apply Drawn0.step)⟩
      ·rw [if_neg c6] at H
       have c6b0 : decide (0 < x2_2) = false := decide_eq_false c6
       clear c6
       obtain rfl := Option.some.inj H
       go_wp2
       repeat (go_quiet (fail); try go_wp2)
       go_ret
       exact ⟨by first | rfl | (simp; done) | (simp [*]; done), by repeat (first | exact Drawn0.refl _ | apply Drawn0.step)⟩

/-! ### spec_DrawAgesFromTwo: function 40 -/
def spec_DrawAgesFromTwo.f (l0 : List Int) : Option (Int × Int × Int × Int × Int) := (spec_l1Cur_ratio.f l0 0 0).bind fun bt273 => ((spec_l1Cur_ratio.f l0 bt273.2.2.1 bt273.2.2.2).bind fun bt278 => ((spec_l1Cur_among.f l0 bt278.2.2.1 bt278.2.2.2 (([1, 2, 5, 10, (-1), (-4), 0, 120, 121] : List Int))).bind fun bt286 => (some (bt273.1, bt273.2.1, bt278.1, bt278.2.1, bt286.1))))
def spec_DrawAgesFromTwo.T4 : Bool × List (List Nat × List Nat) := (true, [([], []), ([], []), ([], []), ([], []), ([2, 3], [2, 3]), ([0, 4, 0], [0]), ([1, 5, 0, 1, 5], [1]), ([4, 6, 0, 1, 2, 3, 4, 5, 6], [4])])
def spec_DrawAgesFromTwo.B4 : List Nat := [0, 0, 0, 0, 12, 29, 63, 127]
theorem spec_DrawAgesFromTwo.tab4 : rtab .any (opsOf Try.f40 4) = spec_DrawAgesFromTwo.T4 := by kernel_rfl
theorem spec_DrawAgesFromTwo.bits4 : waitsOk spec_DrawAgesFromTwo.T4.2 spec_DrawAgesFromTwo.B4 = true := by kernel_rfl
set_option maxHeartbeats 8000000 in
set_option maxRecDepth 100000 in
theorem spec_DrawAgesFromTwo.calls (A0 : Option Addr) (c0 : Nat) (l0 : List Int) (r1 : Int) (r2 : Int) (r3 : Int) (r4 : Int) (r5 : Int) (w : World) (hr0 : Kd.C (Kd.int .u8) w A0 l0.length l0) (hc0 : l0.length ≤ c0) (h : spec_DrawAgesFromTwo.f l0 = some (r1, r2, r3, r4, r5)) :
  Calls Try.prog 40 #[.slice A0 l0.length c0] w fun e w' => e = .returned (.tuple #[.agg #[.int .i64 r1, .int .i64 r2], .agg #[.int .i64 r3, .int .i64 r4], .int .i64 r5]) ∧ Below w.heap.size w w' := by
 have hu43 := Try.underlying43
 have hu79 := Try.underlying79
 have HR0 := Aside0.mk hr0
 have HC0 := Aside0.mk hc0
 clear hr0 hc0
 have HB := Aside0.mk (Below.refl w.heap.size w)
 have H : ((spec_l1Cur_ratio.f l0 0 0).bind fun bt273 => ((spec_l1Cur_ratio.f l0 bt273.2.2.1 bt273.2.2.2).bind fun bt278 => ((spec_l1Cur_among.f l0 bt278.2.2.1 bt278.2.2.2 (([1, 2, 5, 10, (-1), (-4), 0, 120, 121] : List Int))).bind fun bt286 => (some (bt273.1, bt273.2.1, bt278.1, bt278.2.1, bt286.1))))) = some (r1, r2, r3, r4, r5) := h
 clear h
 replace H := Option.bind_eq_some_iff.mp H
 obtain ⟨⟨t273, t274, t275, t276⟩, A20, H⟩ := H
 replace H : ((spec_l1Cur_ratio.f l0 t275 t276).bind fun bt278 => ((spec_l1Cur_among.f l0 bt278.2.2.1 bt278.2.2.2 (([1, 2, 5, 10, (-1), (-4), 0, 120, 121] : List Int))).bind fun bt286 => (some (t273, t274, bt278.1, bt278.2.1, bt286.1)))) = some (r1, r2, r3, r4, r5) := H
 have A2 := Aside0.mk A20
 clear A20
 replace H := Option.bind_eq_some_iff.mp H
 obtain ⟨⟨t278, t279, t280, t281⟩, A30, H⟩ := H
 replace H : ((spec_l1Cur_among.f l0 t280 t281 (([1, 2, 5, 10, (-1), (-4), 0, 120, 121] : List Int))).bind fun bt286 => (some (t273, t274, t278, t279, bt286.1))) = some (r1, r2, r3, r4, r5) := H
 have A3 := Aside0.mk A30
 clear A30
 obtain ⟨y283, hy283⟩ : ∃ y_ : List Int, y_ = (([1, 2, 5, 10, (-1), (-4), 0, 120, 121] : List Int)) := ⟨_, rfl⟩
 replace H : ((spec_l1Cur_among.f l0 t280 t281 y283).bind fun bt286 => (some (t273, t274, t278, t279, bt286.1))) = some (r1, r2, r3, r4, r5) := by first | (rw [hy283]; with_reducible exact H) | (have H2_ := (Option.bind_some _ _).symm.trans H; rw [hy283]; with_reducible exact H2_) | (have H2_ := (Option.bind_some _ _).symm.trans H; with_reducible exact H2_) | with_reducible exact H | (rw [hy283]; exact H) | exact H
 have Ny283 := Aside0.mk hy283
 clear hy283
 replace H := Option.bind_eq_some_iff.mp H
 obtain ⟨⟨t286, t287, t288⟩, A40, H⟩ := H
 replace H : (some (t273, t274, t278, t279, t286)) = some (r1, r2, r3, r4, r5) := H
 have A4 := Aside0.mk A40
 clear A40
 simp only [Option.some.injEq, Prod.mk.injEq] at H
 obtain ⟨rfl, rfl, rfl, rfl, rfl⟩ := H
 go_enter Try.func40, Try.ntmps40
 try go_wp2_with (first | ((with_reducible refine gate_dst (N := 2) rfl ?_); refine box_event ?hg (N := 2) ?hd (cs := #[.int .i64 0, .int .i64 0]) (t := 43) ?hr ?_; (case hd => rfl); (case hg => rfl); (case hr => first | (go_simp; done) | (go_simp; rfl)); intro gb270 hg w5 hbox hb; have n0_ := kH HB hb; have n1_ := Aside0.mk (hbox); have n2_ := kG HB hg; have n3_ := kG HB hg; replace HB := n0_; have BK270 := n1_; have GW270 := n2_; have GE270 := n3_; clear n0_ n1_ n2_ n3_; clear hb hbox hg) | ((with_reducible refine gate_dst (N := 3) rfl ?_); refine box_event ?hg (N := 3) ?hd (cs := #[.int .i64 0, .int .i64 0]) (t := 43) ?hr ?_; (case hd => rfl); (case hg => rfl); (case hr => first | (go_simp; done) | (go_simp; rfl)); intro gb271 hg w6 hbox hb; have n0_ := kB BK270 hb; have n1_ := kH HB hb; have n2_ := Aside0.mk (hbox); have n3_ := kG HB hg; have n4_ := kG HB hg; have n5_ := kL BK270 hg; have n6_ := kR BK270 hg; replace BK270 := n0_; replace HB := n1_; have BK271 := n2_; have GW271 := n3_; have GE271 := n4_; have NB270_271 := n5_; have NB271_270 := n6_; clear n0_ n1_ n2_ n3_ n4_ n5_ n6_; clear hb hbox hg) | ((with_reducible refine gate_dst (N := 10) rfl ?_); refine box_event ?hg (N := 10) ?hd (cs := #[.slice A0 l0.length c0, .int .i64 0, .int .u64 0]) (t := 79) ?hr ?_; (case hd => rfl); (case hg => rfl); (case hr => first | (go_simp; done) | (go_simp; rfl)); intro gb272 hg w7 hbox hb; have n0_ := kB BK270 hb; have n1_ := kB BK271 hb; have n2_ := kH HB hb; have n3_ := kG HB hg; have n4_ := kG HB hg; have n5_ := kL BK270 hg; have n6_ := kR BK270 hg; have n7_ := kL BK271 hg; have n8_ := kR BK271 hg; have n9_ := Aside0.mk ((⟨_, _, hbox, (by rw [hg]; exact (below_size kO) : w.heap.size ≤ gb272), HR0.out⟩ : IsS79 w w7 gb272 l0 0 0)); replace BK270 := n0_; replace BK271 := n1_; replace HB := n2_; have GW272 := n3_; have GE272 := n4_; have NB270_272 := n5_; have NB272_270 := n6_; have NB271_272 := n7_; have NB272_271 := n8_; have HI272 := n9_; clear n0_ n1_ n2_ n3_ n4_ n5_ n6_ n7_ n8_ n9_; clear hb hbox hg) | ((with_reducible refine gate_callee (f := 70) rfl ?_); refine kE (some 12) Try.func70 #[.pointer (some ⟨gb272, 0, none⟩)] rfl ?_; (with_reducible refine (spec_l1Cur_ratio.calls gb272 l0 0 0 t273 t274 t275 t276 w _ ?side1 ?side2 A2.out).mono ?_); (case side1 => repeat (first | (with_reducible first | exact HI272.out | apply IsS79.alloc | apply IsS79.drewN | apply IsS79.drew | apply IsS79.set_1 | apply IsS79.set_2 | refine IsS79.far ?_ NB272_270.out _ | refine IsS79.far ?_ NB272_271.out _) | exact HI272.out)); (case side2 => repeat (first | (with_reducible first | exact HB.out | apply below_alloc | apply pw_below_drewN | apply below_drew1 | refine below_set ?_ (IsS79.ge HI272.out) | refine below_set ?_ GE270.out | refine below_set ?_ GE271.out) | exact HB.out)); rintro e w8 ⟨rfl, hi, hb, hk⟩; refine ⟨_, rfl, ?_⟩; have n0_ := Aside0.mk (KeepBut.blk hk (g' := gb270) (o := .cells #[.int .i64 0, .int .i64 0] 43 (0, 0)) kC NB270_272.out (by simp)); have n1_ := Aside0.mk (KeepBut.blk hk (g' := gb271) (o := .cells #[.int .i64 0, .int .i64 0] 43 (0, 0)) kC NB271_272.out (by simp)); have n2_ := Aside0.mk (hb); have n3_ := Aside0.mk (hi); clear BK270; clear BK271; clear HB; clear HI272; have BK270 := n0_; have BK271 := n1_; have HB := n2_; have HI272 := n3_; clear n0_ n1_ n2_ n3_; (try clear hb); (try clear hk); (try clear hi)) | ((with_reducible refine gate_dst (N := 6) rfl ?_); refine box_event ?hg (N := 6) ?hd (cs := #[.int .i64 0, .int .i64 0]) (t := 43) ?hr ?_; (case hd => rfl); (case hg => rfl); (case hr => first | (go_simp; done) | (go_simp; rfl)); intro gb277 hg w9 hbox hb; have n0_ := kB BK270 hb; have n1_ := kB BK271 hb; have n2_ := Aside0.mk (IsS79.below (by repeat (first | (with_reducible first | exact HI272.out | apply IsS79.alloc | apply IsS79.drewN | apply IsS79.drew | apply IsS79.set_1 | apply IsS79.set_2 | refine IsS79.far ?_ NB272_270.out _ | refine IsS79.far ?_ NB272_271.out _) | exact HI272.out)) hb); have n3_ := Aside0.mk (below_step (by repeat (first | (with_reducible first | exact HB.out | apply below_alloc | apply pw_below_drewN | apply below_drew1 | refine below_set ?_ (IsS79.ge HI272.out) | refine below_set ?_ GE270.out | refine below_set ?_ GE271.out) | exact HB.out)) hb); have n4_ := Aside0.mk (hbox); have n5_ := Aside0.mk ((by rw [hg]; exact (below_size (by repeat (first | (with_reducible first | exact HB.out | apply below_alloc | apply pw_below_drewN | apply below_drew1 | refine below_set ?_ (IsS79.ge HI272.out) | refine below_set ?_ GE270.out | refine below_set ?_ GE271.out) | exact HB.out))) : w.heap.size ≤ gb277)); have n6_ := Aside0.mk ((by rw [hg]; exact (below_size (by repeat (first | (with_reducible first | exact HB.out | apply below_alloc | apply pw_below_drewN | apply below_drew1 | refine below_set ?_ (IsS79.ge HI272.out) | refine below_set ?_ GE270.out | refine below_set ?_ GE271.out) | exact HB.out))) : w.heap.size ≤ gb277)); have n7_ := kL BK270 hg; have n8_ := kR BK270 hg; have n9_ := kL BK271 hg; have n10_ := kR BK271 hg; have n11_ := Aside0.mk ((by rw [hg]; exact Nat.ne_of_lt (IsS79.lt (show IsS79 w _ gb272 l0 t275 t276 from by repeat (first | (with_reducible first | exact HI272.out | apply IsS79.alloc | apply IsS79.drewN | apply IsS79.drew | apply IsS79.set_1 | apply IsS79.set_2 | refine IsS79.far ?_ NB272_270.out _ | refine IsS79.far ?_ NB272_271.out _) | exact HI272.out))) : gb272 ≠ gb277)); have n12_ := Aside0.mk ((by rw [hg]; exact Nat.ne_of_gt (IsS79.lt (show IsS79 w _ gb272 l0 t275 t276 from by repeat (first | (with_reducible first | exact HI272.out | apply IsS79.alloc | apply IsS79.drewN | apply IsS79.drew | apply IsS79.set_1 | apply IsS79.set_2 | refine IsS79.far ?_ NB272_270.out _ | refine IsS79.far ?_ NB272_271.out _) | exact HI272.out))) : gb277 ≠ gb272)); clear BK270; clear BK271; clear HI272; clear HB; have BK270 := n0_; have BK271 := n1_; have HI272 := n2_; have HB := n3_; have BK277 := n4_; have GW277 := n5_; have GE277 := n6_; have NB270_277 := n7_; have NB277_270 := n8_; have NB271_277 := n9_; have NB277_271 := n10_; have NB272_277 := n11_; have NB277_272 := n12_; clear n0_ n1_ n2_ n3_ n4_ n5_ n6_ n7_ n8_ n9_ n10_ n11_ n12_; clear hb hbox hg; have hnb10 := NB277_270.out; have hnc10 := NB270_277.out; have hnb11 := NB277_271.out; have hnc11 := NB271_277.out; have hnb12 := NB277_272.out; have hnc12 := NB272_277.out; have hcz13_0 : w9.cell? ⟨gb277, 0, none⟩ = some (.int .i64 0) := (blk_cell BK277.out 0).trans rfl; have hcz13_1 : w9.cell? ⟨gb277, 1, none⟩ = some (.int .i64 0) := (blk_cell BK277.out 1).trans rfl; have hfz13_0 := blk_frozen BK277.out 0; have hfz13_1 := blk_frozen BK277.out 1) | ((with_reducible refine gate_callee (f := 70) rfl ?_); refine kE (some 14) Try.func70 #[.pointer (some ⟨gb272, 0, none⟩)] rfl ?_; (with_reducible refine (spec_l1Cur_ratio.calls gb272 l0 t275 t276 t278 t279 t280 t281 w _ ?side1 ?side2 A3.out).mono ?_); (case side1 => repeat (first | (with_reducible first | exact HI272.out | apply IsS79.alloc | apply IsS79.drewN | apply IsS79.drew | apply IsS79.set_1 | apply IsS79.set_2 | refine IsS79.far ?_ NB272_270.out _ | refine IsS79.far ?_ NB272_271.out _ | refine IsS79.far ?_ NB272_277.out _) | exact HI272.out)); (case side2 => repeat (first | (with_reducible first | exact HB.out | apply below_alloc | apply pw_below_drewN | apply below_drew1 | refine below_set ?_ (IsS79.ge HI272.out) | refine below_set ?_ GE270.out | refine below_set ?_ GE271.out | refine below_set ?_ GE277.out) | exact HB.out)); rintro e w14 ⟨rfl, hi, hb, hk⟩; refine ⟨_, rfl, ?_⟩; have n0_ := Aside0.mk (KeepBut.blk hk (g' := gb270) (o := .cells #[.int .i64 0, .int .i64 0] 43 (0, 0)) kC NB270_272.out (by simp)); have n1_ := Aside0.mk (KeepBut.blk hk (g' := gb271) (o := .cells #[.int .i64 0, .int .i64 0] 43 (0, 0)) kC NB271_272.out (by simp)); have n2_ := Aside0.mk (KeepBut.blk hk (g' := gb277) (o := .cells #[.int .i64 t273, .int .i64 t274] 43 (0, 0)) (by (with_reducible repeat (first | refine blk_drewN ?_ _ | refine blk_drew ?_ | refine blk_alloc ?_ _)); refine blk_put (cs := #[.int .i64 t273, .int .i64 0]) ?_ 1 _ rfl; (with_reducible repeat (first | refine blk_drewN ?_ _ | refine blk_drew ?_ | refine blk_alloc ?_ _)); refine blk_put (cs := #[.int .i64 0, .int .i64 0]) ?_ 0 _ rfl; (with_reducible repeat (first | refine blk_drewN ?_ _ | refine blk_drew ?_ | refine blk_alloc ?_ _)); exact BK277.out) NB277_272.out (by simp)); have n3_ := Aside0.mk (hb); have n4_ := Aside0.mk (hi); clear BK270; clear BK271; clear BK277; clear HB; clear HI272; have BK270 := n0_; have BK271 := n1_; have BK277 := n2_; have HB := n3_; have HI272 := n4_; clear n0_ n1_ n2_ n3_ n4_; (try clear hb); (try clear hk); (try clear hi)) | ((with_reducible refine gate_dst (N := 7) rfl ?_); refine box_event ?hg (N := 7) ?hd (cs := #[.int .i64 0, .int .i64 0]) (t := 43) ?hr ?_; (case hd => rfl); (case hg => rfl); (case hr => first | (go_simp; done) | (go_simp; rfl)); intro gb282 hg w15 hbox hb; have n0_ := kB BK270 hb; have n1_ := kB BK271 hb; have n2_ := Aside0.mk (IsS79.below (by repeat (first | (with_reducible first | exact HI272.out | apply IsS79.alloc | apply IsS79.drewN | apply IsS79.drew | apply IsS79.set_1 | apply IsS79.set_2 | refine IsS79.far ?_ NB272_270.out _ | refine IsS79.far ?_ NB272_271.out _ | refine IsS79.far ?_ NB272_277.out _) | exact HI272.out)) hb); have n3_ := kB BK277 hb; have n4_ := Aside0.mk (below_step (by repeat (first | (with_reducible first | exact HB.out | apply below_alloc | apply pw_below_drewN | apply below_drew1 | refine below_set ?_ (IsS79.ge HI272.out) | refine below_set ?_ GE270.out | refine below_set ?_ GE271.out | refine below_set ?_ GE277.out) | exact HB.out)) hb); have n5_ := Aside0.mk (hbox); have n6_ := Aside0.mk ((by rw [hg]; exact (below_size (by repeat (first | (with_reducible first | exact HB.out | apply below_alloc | apply pw_below_drewN | apply below_drew1 | refine below_set ?_ (IsS79.ge HI272.out) | refine below_set ?_ GE270.out | refine below_set ?_ GE271.out | refine below_set ?_ GE277.out) | exact HB.out))) : w.heap.size ≤ gb282)); have n7_ := Aside0.mk ((by rw [hg]; exact (below_size (by repeat (first | (with_reducible first | exact HB.out | apply below_alloc | apply pw_below_drewN | apply below_drew1 | refine below_set ?_ (IsS79.ge HI272.out) | refine below_set ?_ GE270.out | refine below_set ?_ GE271.out | refine below_set ?_ GE277.out) | exact HB.out))) : w.heap.size ≤ gb282)); have n8_ := kL BK270 hg; have n9_ := kR BK270 hg; have n10_ := kL BK271 hg; have n11_ := kR BK271 hg; have n12_ := kL BK277 hg; have n13_ := kR BK277 hg; have n14_ := Aside0.mk ((by rw [hg]; exact Nat.ne_of_lt (IsS79.lt (show IsS79 w _ gb272 l0 t280 t281 from by repeat (first | (with_reducible first | exact HI272.out | apply IsS79.alloc | apply IsS79.drewN | apply IsS79.drew | apply IsS79.set_1 | apply IsS79.set_2 | refine IsS79.far ?_ NB272_270.out _ | refine IsS79.far ?_ NB272_271.out _ | refine IsS79.far ?_ NB272_277.out _) | exact HI272.out))) : gb272 ≠ gb282)); have n15_ := Aside0.mk ((by rw [hg]; exact Nat.ne_of_gt (IsS79.lt (show IsS79 w _ gb272 l0 t280 t281 from by repeat (first | (with_reducible first | exact HI272.out | apply IsS79.alloc | apply IsS79.drewN | apply IsS79.drew | apply IsS79.set_1 | apply IsS79.set_2 | refine IsS79.far ?_ NB272_270.out _ | refine IsS79.far ?_ NB272_271.out _ | refine IsS79.far ?_ NB272_277.out _) | exact HI272.out))) : gb282 ≠ gb272)); clear BK270; clear BK271; clear HI272; clear BK277; clear HB; have BK270 := n0_; have BK271 := n1_; have HI272 := n2_; have BK277 := n3_; have HB := n4_; have BK282 := n5_; have GW282 := n6_; have GE282 := n7_; have NB270_282 := n8_; have NB282_270 := n9_; have NB271_282 := n10_; have NB282_271 := n11_; have NB277_282 := n12_; have NB282_277 := n13_; have NB272_282 := n14_; have NB282_272 := n15_; clear n0_ n1_ n2_ n3_ n4_ n5_ n6_ n7_ n8_ n9_ n10_ n11_ n12_ n13_ n14_ n15_; clear hb hbox hg; have hnb16 := NB282_270.out; have hnc16 := NB270_282.out; have hnb17 := NB282_271.out; have hnc17 := NB271_282.out; have hnb18 := NB282_277.out; have hnc18 := NB277_282.out; have hnb19 := NB282_272.out; have hnc19 := NB272_282.out; have hcz20_0 : w15.cell? ⟨gb282, 0, none⟩ = some (.int .i64 0) := (blk_cell BK282.out 0).trans rfl; have hcz20_1 : w15.cell? ⟨gb282, 1, none⟩ = some (.int .i64 0) := (blk_cell BK282.out 1).trans rfl; have hfz20_0 := blk_frozen BK282.out 0; have hfz20_1 := blk_frozen BK282.out 1))
 have n0_ : Aside0 (((w15.setCell ⟨gb282, 0, none⟩ (.int .i64 t278)).setCell ⟨gb282, 1, none⟩ (.int .i64 t279)).heap[gb270]? = some (.cells #[.int .i64 0, .int .i64 0] 43 (0, 0))) := kA
 have n1_ : Aside0 (((w15.setCell ⟨gb282, 0, none⟩ (.int .i64 t278)).setCell ⟨gb282, 1, none⟩ (.int .i64 t279)).heap[gb271]? = some (.cells #[.int .i64 0, .int .i64 0] 43 (0, 0))) := kA
 have n2_ : Aside0 (((w15.setCell ⟨gb282, 0, none⟩ (.int .i64 t278)).setCell ⟨gb282, 1, none⟩ (.int .i64 t279)).heap[gb277]? = some (.cells #[.int .i64 t273, .int .i64 t274] 43 (0, 0))) := kA
 have n3_ : Aside0 (((w15.setCell ⟨gb282, 0, none⟩ (.int .i64 t278)).setCell ⟨gb282, 1, none⟩ (.int .i64 t279)).heap[gb282]? = some (.cells #[.int .i64 t278, .int .i64 t279] 43 (0, 0))) := ⟨by (with_reducible repeat (first | refine blk_drewN ?_ _ | refine blk_drew ?_ | refine blk_alloc ?_ _)); refine blk_put (cs := #[.int .i64 t278, .int .i64 0]) ?_ 1 _ rfl; (with_reducible repeat (first | refine blk_drewN ?_ _ | refine blk_drew ?_ | refine blk_alloc ?_ _)); refine blk_put (cs := #[.int .i64 0, .int .i64 0]) ?_ 0 _ rfl; (with_reducible repeat (first | refine blk_drewN ?_ _ | refine blk_drew ?_ | refine blk_alloc ?_ _)); exact BK282.out⟩
 have n4_ : Aside0 (IsS79 w ((w15.setCell ⟨gb282, 0, none⟩ (.int .i64 t278)).setCell ⟨gb282, 1, none⟩ (.int .i64 t279)) gb272 l0 t280 t281) := ⟨by repeat (first | (with_reducible first | exact HI272.out | apply IsS79.alloc | apply IsS79.drewN | apply IsS79.drew | apply IsS79.set_1 | apply IsS79.set_2 | refine IsS79.far ?_ NB272_270.out _ | refine IsS79.far ?_ NB272_271.out _ | refine IsS79.far ?_ NB272_277.out _ | refine IsS79.far ?_ NB272_282.out _) | exact HI272.out)⟩
 have n5_ : Aside0 (Below w.heap.size w ((w15.setCell ⟨gb282, 0, none⟩ (.int .i64 t278)).setCell ⟨gb282, 1, none⟩ (.int .i64 t279))) := ⟨by repeat (first | (with_reducible first | exact HB.out | apply below_alloc | apply pw_below_drewN | apply below_drew1 | refine below_set ?_ (IsS79.ge HI272.out) | refine below_set ?_ GE270.out | refine below_set ?_ GE271.out | refine below_set ?_ GE277.out | refine below_set ?_ GE282.out) | exact HB.out)⟩
 (try clear HI272)
 (try clear HB)
 generalize ((w15.setCell ⟨gb282, 0, none⟩ (.int .i64 t278)).setCell ⟨gb282, 1, none⟩ (.int .i64 t279)) = w21 at n0_ n1_ n2_ n3_ n4_ n5_ ⊢
 have BK270 := n0_
 have BK271 := n1_
 have BK277 := n2_
 have BK282 := n3_
 have HI272 := n4_
 have HB := n5_
 clear n0_ n1_ n2_ n3_ n4_ n5_
 have n0_ := Aside0.mk (blk_drew BK270.out)
 have n1_ := Aside0.mk (blk_drew BK271.out)
 have n2_ := Aside0.mk (blk_drew BK277.out)
 have n3_ := Aside0.mk (blk_drew BK282.out)
 have n4_ := Aside0.mk (IsS79.drew HI272.out)
 have n5_ := Aside0.mk (below_drew1 HB.out)
 clear BK270
 clear BK271
 clear BK277
 clear BK282
 clear HI272
 clear HB
 have BK270 := n0_
 have BK271 := n1_
 have BK277 := n2_
 have BK282 := n3_
 have HI272 := n4_
 have HB := n5_
 clear n0_ n1_ n2_ n3_ n4_ n5_
 refine start_ (n := 8) (S := fun w' => w'.cell? ⟨gb277, 0, none⟩ = some (.int .i64 t273) ∧ w'.cell? ⟨gb277, 1, none⟩ = some (.int .i64 t274) ∧ w'.cell? ⟨gb282, 0, none⟩ = some (.int .i64 t278) ∧ w'.cell? ⟨gb282, 1, none⟩ = some (.int .i64 t279)) (ds := []) #[false, false, false, false, false, false, false, false] (by kernel_rfl) rfl rfl ⟨(blk_cell BK277.out 0).trans rfl, (blk_cell BK277.out 1).trans rfl, (blk_cell BK282.out 0).trans rfl, (blk_cell BK282.out 1).trans rfl⟩ (fun hHeld => ?_); refine with_tabW spec_DrawAgesFromTwo.tab4 spec_DrawAgesFromTwo.bits4 (fun HT_ HW_ => ?_)
 generalize w21.drew = w22 at BK270 BK271 BK277 BK282 HI272 HB hHeld ⊢
 refine pure_ (i := 2) (N := some 17) (v := ?_) (a' := ?_) #[false, false, true, false, false, false, false, false] rfl rfl (any_of HT_.out (by kernel_rfl)) (fun _ _ _ h => h) (Or.inl ⟨by rfl, ?_⟩) ?_ ?_
 rotate_left
 ·intro w'
  go_simp
  with_reducible rfl
 rotate_left
 ·simp only [Act.put, List.setIfInBounds_toArray, List.set_cons_zero, List.set_cons_succ, i64_w, i32_w]
  rfl
 refine take_ (i := 0) (N := some 15) (v := ?_) (a' := ?_) #[true, false, true, false, false, false, false, false] rfl rfl (take_ofW HT_.out HW_.out (by kernel_rfl)) (fun _ _ _ h => h) (Or.inl ⟨by rfl, ?_⟩) hHeld ?_ ?_
 rotate_left
 ·rintro w' ⟨s0, s1, s2, s3⟩
  go_simp
  with_reducible rfl
 rotate_left
 ·simp only [Act.put, List.setIfInBounds_toArray, List.set_cons_zero, List.set_cons_succ, i64_w, i32_w]
  rfl
 refine take_ (i := 1) (N := some 16) (v := ?_) (a' := ?_) #[true, true, true, false, false, false, false, false] rfl rfl (take_ofW HT_.out HW_.out (by kernel_rfl)) (fun _ _ _ h => h) (Or.inl ⟨by rfl, ?_⟩) hHeld ?_ ?_
 rotate_left
 ·rintro w' ⟨s0, s1, s2, s3⟩
  go_simp
  with_reducible rfl
 rotate_left
 ·simp only [Act.put, List.setIfInBounds_toArray, List.set_cons_zero, List.set_cons_succ, i64_w, i32_w]
  rfl
 refine one_ (i := 3) (N := some 18) #[true, true, true, true, false, false, false, false] rfl rfl (one_of HT_.out (by kernel_rfl)) (by decide) (fun K hK => ?_)
 refine Kd.R_lit_step (Kd.int .i64) _ 3 ?hg (N := 18) ?hd (xs := ([1, 2, 5, 10, (-1), (-4), 0, 120, 121] : List Int)) (inner := [.int .i64 1, .int .i64 2, .int .i64 5, .int .i64 10, .int .i64 (-1), .int .i64 (-4), .int .i64 0, .int .i64 120, .int .i64 121]) (ok := fun _ => True) (okp := fun _ => True) ?hr ?hp (fun _ hk => hk) trivial (Below.refl _ _) (Nat.le_refl _) (by simp) ?_; (case hd => rfl); (case hg => rfl); (case hr => first | (go_simp; done) | (go_simp; rfl)); (case hp => exact (Reps.one (show Kd.M (Kd.int .i64) _ _ _ 1 [.int .i64 1] from rfl) (Reps.one (show Kd.M (Kd.int .i64) _ _ _ 2 [.int .i64 2] from rfl) (Reps.one (show Kd.M (Kd.int .i64) _ _ _ 5 [.int .i64 5] from rfl) (Reps.one (show Kd.M (Kd.int .i64) _ _ _ 10 [.int .i64 10] from rfl) (Reps.one (show Kd.M (Kd.int .i64) _ _ _ (-1) [.int .i64 (-1)] from rfl) (Reps.one (show Kd.M (Kd.int .i64) _ _ _ (-4) [.int .i64 (-4)] from rfl) (Reps.one (show Kd.M (Kd.int .i64) _ _ _ 0 [.int .i64 0] from rfl) (Reps.one (show Kd.M (Kd.int .i64) _ _ _ 120 [.int .i64 120] from rfl) (Reps.one (show Kd.M (Kd.int .i64) _ _ _ 121 [.int .i64 121] from rfl) (Reps.none _ _)))))))))))
 intro v284 w23 ho24 hb hg_ hnew_
 clear hg_ hnew_
 (first | rw [← Ny283.out] at ho24 | (simp only [Int.reduceToNat] at ho24; rw [← Ny283.out] at ho24))
 have n0_ := Aside0.mk (Kd.R_lower ho24 (below_size (by repeat (first | (with_reducible first | exact HB.out | apply below_alloc | apply pw_below_drewN | apply below_drew1 | refine below_set ?_ (IsS79.ge HI272.out) | refine below_set ?_ GE270.out | refine below_set ?_ GE271.out | refine below_set ?_ GE277.out | refine below_set ?_ GE282.out) | exact HB.out))))
 have n1_ := kB BK270 hb
 have n2_ := kB BK271 hb
 have n3_ := Aside0.mk (IsS79.below (by repeat (first | (with_reducible first | exact HI272.out | apply IsS79.alloc | apply IsS79.drewN | apply IsS79.drew | apply IsS79.set_1 | apply IsS79.set_2 | refine IsS79.far ?_ NB272_270.out _ | refine IsS79.far ?_ NB272_271.out _ | refine IsS79.far ?_ NB272_277.out _ | refine IsS79.far ?_ NB272_282.out _) | exact HI272.out)) hb)
 have n4_ := kB BK277 hb
 have n5_ := kB BK282 hb
 have n6_ := Aside0.mk (below_step (by repeat (first | (with_reducible first | exact HB.out | apply below_alloc | apply pw_below_drewN | apply below_drew1 | refine below_set ?_ (IsS79.ge HI272.out) | refine below_set ?_ GE270.out | refine below_set ?_ GE271.out | refine below_set ?_ GE277.out | refine below_set ?_ GE282.out) | exact HB.out)) hb)
 clear BK270
 clear BK271
 clear HI272
 clear BK277
 clear BK282
 clear HB
 have HO285 := n0_
 have BK270 := n1_
 have BK271 := n2_
 have HI272 := n3_
 have BK277 := n4_
 have BK282 := n5_
 have HB := n6_
 clear n0_ n1_ n2_ n3_ n4_ n5_ n6_
 clear hb ho24
 obtain ⟨Ao25, co25, eo25⟩ := Kd.R_slice HO285.out
 (first | subst eo25 | (injection eo25 with f1_ f2_ f3_; have f4_ := f1_.symm; have f5_ := f3_.symm; clear f1_ f2_ f3_; subst f4_; subst f5_))
 refine hK.out _ _ ⟨(blk_cell BK277.out 0).trans rfl, (blk_cell BK277.out 1).trans rfl, (blk_cell BK282.out 0).trans rfl, (blk_cell BK282.out 1).trans rfl⟩ (fun hHeld => ?_)
 clear hK K
 refine norm_ (a' := ?_) ?_ ?_
 rotate_left
 ·show Act.put _ (some 18) _ = _
  simp only [Act.put, List.setIfInBounds_toArray, List.set_cons_zero, List.set_cons_succ, i64_w, i32_w]
  rfl
 refine one_ (i := 4) (N := some 19) #[true, true, true, true, true, false, false, false] rfl rfl (one_of HT_.out (by kernel_rfl)) (by decide) (fun K hK => ?_)
 refine goes_ Try.func79 (by kernel_rfl) rfl #[.pointer (some ⟨gb272, 0, none⟩), .slice Ao25 y283.length co25] (by rfl) rfl rfl (by (try simp only [List.map_toArray, List.map_cons, List.map_nil]); first | done | rfl | (simp only [List.length_drop, List.length_take]; rfl)) ?_
 with_reducible refine (spec_l1Cur_among.calls gb272 l0 t280 t281 _ _ y283 t286 t287 t288 w _ ?side1 ?side2 ?side3 ?side4 ?side5 A4.out).mono ?_
 (case side1 => repeat (first | (with_reducible first | exact HI272.out | apply IsS79.alloc | apply IsS79.drewN | apply IsS79.drew | apply IsS79.set_1 | apply IsS79.set_2 | refine IsS79.far ?_ NB272_270.out _ | refine IsS79.far ?_ NB272_271.out _ | refine IsS79.far ?_ NB272_277.out _ | refine IsS79.far ?_ NB272_282.out _) | exact HI272.out))
 (case side2 => repeat (first | (with_reducible first | exact HB.out | apply below_alloc | apply pw_below_drewN | apply below_drew1 | refine below_set ?_ (IsS79.ge HI272.out) | refine below_set ?_ GE270.out | refine below_set ?_ GE271.out | refine below_set ?_ GE277.out | refine below_set ?_ GE282.out) | exact HB.out))
 (case side3 => repeat (first | exact (Kd.R_reads' HO285.out).2.2 | (with_reducible refine Kd.C_alloc ?_ _) | (with_reducible refine Kd.C_drewN ?_ _) | (with_reducible refine Kd.C_drew ?_)))
 (case side4 => exact (Kd.R_reads' HO285.out).2.1)
 (case side5 => exact far_slice (IsS79.own_ne HI272.out HO285.out (by decide)))
 rintro e w26 ⟨rfl, hi, hb, hk⟩
 refine ⟨_, rfl, ?_⟩
 have n0_ := Aside0.mk (KeepBut.blk hk (g' := gb270) (o := .cells #[.int .i64 0, .int .i64 0] 43 (0, 0)) kC NB270_272.out (by simp))
 have n1_ := Aside0.mk (KeepBut.blk hk (g' := gb271) (o := .cells #[.int .i64 0, .int .i64 0] 43 (0, 0)) kC NB271_272.out (by simp))
 have n2_ := Aside0.mk (KeepBut.blk hk (g' := gb277) (o := .cells #[.int .i64 t273, .int .i64 t274] 43 (0, 0)) kC NB277_272.out (by simp))
 have n3_ := Aside0.mk (KeepBut.blk hk (g' := gb282) (o := .cells #[.int .i64 t278, .int .i64 t279] 43 (0, 0)) kC NB282_272.out (by simp))
 have n4_ := Aside0.mk (Kd.R_mono (Kd.R_keep (IsS79.apart (show IsS79 w _ gb272 l0 t280 t281 from by repeat (first | (with_reducible first | exact HI272.out | apply IsS79.alloc | apply IsS79.drewN | apply IsS79.drew | apply IsS79.set_1 | apply IsS79.set_2 | refine IsS79.far ?_ NB272_270.out _ | refine IsS79.far ?_ NB272_271.out _ | refine IsS79.far ?_ NB272_277.out _ | refine IsS79.far ?_ NB272_282.out _) | exact HI272.out)) (by (with_reducible repeat (first | apply Kd.R_alloc | apply Kd.R_drewN | apply Kd.R_drew)); exact HO285.out) (by decide)) hk (fun _ h => h.2)) (fun _ h => h.1))
 have n5_ := Aside0.mk (hb)
 have n6_ := Aside0.mk (hi)
 clear BK270
 clear BK271
 clear BK277
 clear BK282
 clear HO285
 clear HB
 clear HI272
 have BK270 := n0_
 have BK271 := n1_
 have BK277 := n2_
 have BK282 := n3_
 have HO285 := n4_
 have HB := n5_
 have HI272 := n6_
 clear n0_ n1_ n2_ n3_ n4_ n5_ n6_
 refine hK.out _ _ ⟨(blk_cell BK277.out 0).trans rfl, (blk_cell BK277.out 1).trans rfl, (blk_cell BK282.out 0).trans rfl, (blk_cell BK282.out 1).trans rfl⟩ (fun hHeld => ?_)
 clear hK K
 refine norm_ (a' := ?_) ?_ ?_
 rotate_left
 ·show Act.put _ (some 19) _ = _
  simp only [Act.put, List.setIfInBounds_toArray, List.set_cons_zero, List.set_cons_succ, i64_w, i32_w]
  rfl
 refine one_ (i := 5) (N := none) #[true, true, true, true, true, true, false, false] rfl rfl (one_of HT_.out (by kernel_rfl)) (by decide) (fun K hK => ?_)
 have hs27 : w26.cell? ⟨gb270, 0, none⟩ = some (.int .i64 0) := (blk_cell BK270.out 0).trans rfl
 have hfs27 := blk_frozen BK270.out 0
 have hns27_1 := NB271_270.out
 have hns27_2 := NB277_270.out
 have hns27_3 := NB282_270.out
 have hms27_1 := NB270_271.out
 have hms27_2 := NB270_277.out
 have hms27_3 := NB270_282.out
 have hs28 : w26.cell? ⟨gb270, 1, none⟩ = some (.int .i64 0) := (blk_cell BK270.out 1).trans rfl
 have hfs28 := blk_frozen BK270.out 1
 have hns28_1 := NB271_270.out
 have hns28_2 := NB277_270.out
 have hns28_3 := NB282_270.out
 have hms28_1 := NB270_271.out
 have hms28_2 := NB270_277.out
 have hms28_3 := NB270_282.out
 refine skip_ (w1 := ?_) (by rfl) rfl ?_ ?_
 rotate_left
 ·go_simp
  rfl
 refine hK.out _ _ ⟨((cell_far (p := ⟨gb270, _, none⟩) NB277_270.out _).trans (((cell_far (p := ⟨gb270, _, none⟩) NB277_270.out _).trans (hHeld.1)))), ((cell_far (p := ⟨gb270, _, none⟩) NB277_270.out _).trans (((cell_far (p := ⟨gb270, _, none⟩) NB277_270.out _).trans (hHeld.2.1)))), ((cell_far (p := ⟨gb270, _, none⟩) NB282_270.out _).trans (((cell_far (p := ⟨gb270, _, none⟩) NB282_270.out _).trans (hHeld.2.2.1)))), ((cell_far (p := ⟨gb270, _, none⟩) NB282_270.out _).trans (((cell_far (p := ⟨gb270, _, none⟩) NB282_270.out _).trans (hHeld.2.2.2))))⟩ (fun hHeld => ?_)
 clear hK K
 refine one_ (i := 6) (N := none) #[true, true, true, true, true, true, true, false] rfl rfl (one_of HT_.out (by kernel_rfl)) (by decide) (fun K hK => ?_)
 have hs29 : w26.cell? ⟨gb271, 0, none⟩ = some (.int .i64 0) := (blk_cell BK271.out 0).trans rfl
 have hfs29 := blk_frozen BK271.out 0
 have hns29_0 := NB270_271.out
 have hns29_2 := NB277_271.out
 have hns29_3 := NB282_271.out
 have hms29_0 := NB271_270.out
 have hms29_2 := NB271_277.out
 have hms29_3 := NB271_282.out
 have hs30 : w26.cell? ⟨gb271, 1, none⟩ = some (.int .i64 0) := (blk_cell BK271.out 1).trans rfl
 have hfs30 := blk_frozen BK271.out 1
 have hns30_0 := NB270_271.out
 have hns30_2 := NB277_271.out
 have hns30_3 := NB282_271.out
 have hms30_0 := NB271_270.out
 have hms30_2 := NB271_277.out
 have hms30_3 := NB271_282.out
 refine skip_ (w1 := ?_) (by rfl) rfl ?_ ?_
 rotate_left
 ·go_simp
  rfl
 refine hK.out _ _ ⟨((cell_far (p := ⟨gb271, _, none⟩) NB277_271.out _).trans (((cell_far (p := ⟨gb271, _, none⟩) NB277_271.out _).trans (hHeld.1)))), ((cell_far (p := ⟨gb271, _, none⟩) NB277_271.out _).trans (((cell_far (p := ⟨gb271, _, none⟩) NB277_271.out _).trans (hHeld.2.1)))), ((cell_far (p := ⟨gb271, _, none⟩) NB282_271.out _).trans (((cell_far (p := ⟨gb271, _, none⟩) NB282_271.out _).trans (hHeld.2.2.1)))), ((cell_far (p := ⟨gb271, _, none⟩) NB282_271.out _).trans (((cell_far (p := ⟨gb271, _, none⟩) NB282_271.out _).trans (hHeld.2.2.2))))⟩ (fun hHeld => ?_)
 clear hK K
 refine pure_ (i := 7) (N := some 4) (v := ?_) (a' := ?_) #[true, true, true, true, true, true, true, true] rfl rfl (any_of HT_.out (by kernel_rfl)) (fun _ _ _ h => h) (Or.inl ⟨by rfl, ?_⟩) ?_ ?_
 rotate_left
 ·intro w'
  go_simp
  with_reducible rfl
 rotate_left
 ·simp only [Act.put, List.setIfInBounds_toArray, List.set_cons_zero, List.set_cons_succ, i64_w, i32_w]
  rfl
 refine done_ (done_of HT_.out (by kernel_rfl)) ?_
 try go_wp2
 refine bodyPost_ret (results_list (rs := [.cell 2 43, .cell 3 43, .tmp 4]) rfl (by simp) (.cell gb270 43 #[.int .i64 t273, .int .i64 t274] (0, 0) _ rfl (by (with_reducible repeat (first | refine blk_drewN ?_ _ | refine blk_drew ?_ | refine blk_alloc ?_ _)); refine blk_far ?_ NB270_271.out _; (with_reducible repeat (first | refine blk_drewN ?_ _ | refine blk_drew ?_ | refine blk_alloc ?_ _)); refine blk_far ?_ NB270_271.out _; (with_reducible repeat (first | refine blk_drewN ?_ _ | refine blk_drew ?_ | refine blk_alloc ?_ _)); refine blk_put (cs := #[.int .i64 t273, .int .i64 0]) ?_ 1 _ rfl; (with_reducible repeat (first | refine blk_drewN ?_ _ | refine blk_drew ?_ | refine blk_alloc ?_ _)); refine blk_put (cs := #[.int .i64 0, .int .i64 0]) ?_ 0 _ rfl; (with_reducible repeat (first | refine blk_drewN ?_ _ | refine blk_drew ?_ | refine blk_alloc ?_ _)); exact BK270.out) Try.underlying43 rfl (by kernel_rfl) (.cell gb271 43 #[.int .i64 t278, .int .i64 t279] (0, 0) _ rfl (by (with_reducible repeat (first | refine blk_drewN ?_ _ | refine blk_drew ?_ | refine blk_alloc ?_ _)); refine blk_put (cs := #[.int .i64 t278, .int .i64 0]) ?_ 1 _ rfl; (with_reducible repeat (first | refine blk_drewN ?_ _ | refine blk_drew ?_ | refine blk_alloc ?_ _)); refine blk_put (cs := #[.int .i64 0, .int .i64 0]) ?_ 0 _ rfl; (with_reducible repeat (first | refine blk_drewN ?_ _ | refine blk_drew ?_ | refine blk_alloc ?_ _)); refine blk_far ?_ NB271_270.out _; (with_reducible repeat (first | refine blk_drewN ?_ _ | refine blk_drew ?_ | refine blk_alloc ?_ _)); refine blk_far ?_ NB271_270.out _; (with_reducible repeat (first | refine blk_drewN ?_ _ | refine blk_drew ?_ | refine blk_alloc ?_ _)); exact BK271.out) Try.underlying43 rfl (by kernel_rfl) (.tmp .nil)))) rfl ?_
 exact ⟨by first | rfl | (simp [errW_none, errW_some] <;> rfl) | (simp [*, errW_none, errW_some] <;> rfl), by repeat (first | (with_reducible first | exact HB.out | apply below_alloc | apply pw_below_drewN | apply below_drew1 | refine below_set ?_ (IsS79.ge HI272.out) | refine below_set ?_ GE270.out | refine below_set ?_ GE271.out | refine below_set ?_ GE277.out | refine below_set ?_ GE282.out) | exact HB.out)⟩

/-! ### impl_agesFromTwo: function 82 -/
def impl_agesFromTwo.f (k : Nat) (a0_0 : Int) (a0_1 : Int) (a1_0 : Int) (a1_1 : Int) (a2 : Int) : Option (Int × Int × Int × Bool) := if (wrap64 ((wrap64 (a1_1 * a0_0)) - (wrap64 (a1_0 * a0_1)))) = 0 then (some (0, 0, 0, false)) else ((impl_twoAges.f k (wrap64 (a0_0 * (wrap64 ((wrap64 (a1_0 - a1_1)) * a2)))) (wrap64 ((wrap64 (a1_1 * a0_0)) - (wrap64 (a1_0 * a0_1)))) (wrap64 (a0_1 * (wrap64 ((wrap64 (a1_0 - a1_1)) * a2)))) (wrap64 ((wrap64 (a1_1 * a0_0)) - (wrap64 (a1_0 * a0_1))))).bind fun bt291 => (if (mn bt291.1 bt291.2.1) ≤ 0 then (some (0, 0, 0, false)) else (if (wrap64 ((mn bt291.1 bt291.2.1) + (wrap64 (bt291.2.2 * a2)))) ≤ 0 then (some (0, 0, 0, false)) else (some (bt291.1, bt291.2.1, bt291.2.2, true)))))
set_option maxHeartbeats 8000000 in
set_option maxRecDepth 100000 in
theorem impl_agesFromTwo.calls (k : Nat) (a0_0 : Int) (a0_1 : Int) (a1_0 : Int) (a1_1 : Int) (a2 : Int) (r1 : Int) (r2 : Int) (r3 : Int) (r4 : Bool) (w : World) (h : impl_agesFromTwo.f k a0_0 a0_1 a1_0 a1_1 a2 = some (r1, r2, r3, r4)) :
  Calls Try.prog 82 #[.agg #[.int .i64 a0_0, .int .i64 a0_1], .agg #[.int .i64 a1_0, .int .i64 a1_1], .int .i64 a2] w fun e w' => e = .returned (.tuple #[.int .i64 r1, .int .i64 r2, .int .i64 r3, .bool r4]) ∧ Below w.heap.size w w' := by
 have hu43 := Try.underlying43
 have HB := Aside0.mk (Below.refl w.heap.size w)
 have H : (if (wrap64 ((wrap64 (a1_1 * a0_0)) - (wrap64 (a1_0 * a0_1)))) = 0 then (some (0, 0, 0, false)) else ((impl_twoAges.f k (wrap64 (a0_0 * (wrap64 ((wrap64 (a1_0 - a1_1)) * a2)))) (wrap64 ((wrap64 (a1_1 * a0_0)) - (wrap64 (a1_0 * a0_1)))) (wrap64 (a0_1 * (wrap64 ((wrap64 (a1_0 - a1_1)) * a2)))) (wrap64 ((wrap64 (a1_1 * a0_0)) - (wrap64 (a1_0 * a0_1))))).bind fun bt291 => (if (mn bt291.1 bt291.2.1) ≤ 0 then (some (0, 0, 0, false)) else (if (wrap64 ((mn bt291.1 bt291.2.1) + (wrap64 (bt291.2.2 * a2)))) ≤ 0 then (some (0, 0, 0, false)) else (some (bt291.1, bt291.2.1, bt291.2.2, true)))))) = some (r1, r2, r3, r4) := h
 clear h
 by_cases c4 : (wrap64 ((wrap64 (a1_1 * a0_0)) - (wrap64 (a1_0 * a0_1)))) = 0
 ·rw [if_pos c4] at H
  have c4b0 : ((wrap64 ((wrap64 (a1_1 * a0_0)) - (wrap64 (a1_0 * a0_1)))) == 0) = true := beq_iff_eq.mpr c4
  have c4b1 : ((wrap64 ((wrap64 (a1_1 * a0_0)) - (wrap64 (a1_0 * a0_1)))) != 0) = false := bne_eq_false_iff_eq.mpr c4
  clear c4
  simp only [Option.some.injEq, Prod.mk.injEq] at H
  obtain ⟨rfl, rfl, rfl, rfl⟩ := H
  go_enter Try.func82, Try.ntmps82
  go_wp2_with (first | ((with_reducible refine gate_dst (N := 3) rfl ?_); (try (refine gate_guard (by rfl) ?_; dsimp only)); refine box_event ?hg (N := 3) ?hd (cs := #[.int .i64 a0_0, .int .i64 a0_1]) (t := 43) ?hr ?_; (case hd => rfl); (case hg => rfl); (case hr => first | (go_simp; done) | (go_simp; rfl)); intro gb289 hg w5 hbox hb; have n0_ := kH HB hb; have n1_ := Aside0.mk (hbox); have n2_ := kG HB hg; have n3_ := kG HB hg; replace HB := n0_; have BK289 := n1_; have GW289 := n2_; have GE289 := n3_; clear n0_ n1_ n2_ n3_; clear hb hbox hg) | ((with_reducible refine gate_dst (N := 4) rfl ?_); (try (refine gate_guard (by rfl) ?_; dsimp only)); refine box_event ?hg (N := 4) ?hd (cs := #[.int .i64 a1_0, .int .i64 a1_1]) (t := 43) ?hr ?_; (case hd => rfl); (case hg => rfl); (case hr => first | (go_simp; done) | (go_simp; rfl)); intro gb290 hg w6 hbox hb; have n0_ := kB BK289 hb; have n1_ := kH HB hb; have n2_ := Aside0.mk (hbox); have n3_ := kG HB hg; have n4_ := kG HB hg; have n5_ := kL BK289 hg; have n6_ := kR BK289 hg; replace BK289 := n0_; replace HB := n1_; have BK290 := n2_; have GW290 := n3_; have GE290 := n4_; have NB289_290 := n5_; have NB290_289 := n6_; clear n0_ n1_ n2_ n3_ n4_ n5_ n6_; clear hb hbox hg; have hnb7 := NB290_289.out; have hnc7 := NB289_290.out; have hcz8_0 : w6.cell? ⟨gb290, 0, none⟩ = some (.int .i64 a1_0) := (blk_cell BK290.out 0).trans rfl; have hcz8_1 : w6.cell? ⟨gb290, 1, none⟩ = some (.int .i64 a1_1) := (blk_cell BK290.out 1).trans rfl; have hfz8_0 := blk_frozen BK290.out 0; have hfz8_1 := blk_frozen BK290.out 1; have hcz9_0 : w6.cell? ⟨gb289, 0, none⟩ = some (.int .i64 a0_0) := (blk_cell BK289.out 0).trans rfl; have hcz9_1 : w6.cell? ⟨gb289, 1, none⟩ = some (.int .i64 a0_1) := (blk_cell BK289.out 1).trans rfl; have hfz9_0 := blk_frozen BK289.out 0; have hfz9_1 := blk_frozen BK289.out 1))
  refine bodyPost_ret (results_list (rs := [.tmp 6, .tmp 7, .tmp 8, .tmp 9]) rfl (by simp) (.tmp (.tmp (.tmp (.tmp .nil))))) rfl ?_
  exact ⟨by first | rfl | (simp [errW_none, errW_some] <;> rfl) | (simp [*, errW_none, errW_some] <;> rfl), kO⟩
 ·rw [if_neg c4] at H
  have c4b0 : ((wrap64 ((wrap64 (a1_1 * a0_0)) - (wrap64 (a1_0 * a0_1)))) == 0) = false := beq_eq_false_iff_ne.mpr c4
  have c4b1 : ((wrap64 ((wrap64 (a1_1 * a0_0)) - (wrap64 (a1_0 * a0_1)))) != 0) = true := bne_iff_ne.mpr c4
  replace H := Option.bind_eq_some_iff.mp H
  obtain ⟨⟨t291, t292, t293⟩, A100, H⟩ := H
  replace H : (if (mn t291 t292) ≤ 0 then (some (0, 0, 0, false)) else (if (wrap64 ((mn t291 t292) + (wrap64 (t293 * a2)))) ≤ 0 then (some (0, 0, 0, false)) else (some (t291, t292, t293, true)))) = some (r1, r2, r3, r4) := H
  have A10 := Aside0.mk A100
  clear A100
  obtain ⟨ji11, hji11⟩ : ∃ j_ : Int, (mn t291 t292) = j_ := ⟨_, rfl⟩
  replace H : (if (ji11) ≤ 0 then (some (0, 0, 0, false)) else (if (wrap64 ((ji11) + (wrap64 (t293 * a2)))) ≤ 0 then (some (0, 0, 0, false)) else (some (t291, t292, t293, true)))) = some (r1, r2, r3, r4) := by first | (rw [hji11] at H; exact H) | (simp only [hji11] at H ⊢; exact H)
  (try rw [hji11] at A10)
  have hji11_ : (if t292 < t291 then t292 else t291) = ji11 := hji11
  by_cases c12 : (ji11) ≤ 0
  ·rw [if_pos c12] at H
   have c12b0 : decide ((ji11) ≤ 0) = true := decide_eq_true c12
   clear c12
   simp only [Option.some.injEq, Prod.mk.injEq] at H
   obtain ⟨rfl, rfl, rfl, rfl⟩ := H
   go_enter Try.func82, Try.ntmps82
   go_wp2_with (first | ((with_reducible refine gate_dst (N := 3) rfl ?_); (try (refine gate_guard (by rfl) ?_; dsimp only)); refine box_event ?hg (N := 3) ?hd (cs := #[.int .i64 a0_0, .int .i64 a0_1]) (t := 43) ?hr ?_; (case hd => rfl); (case hg => rfl); (case hr => first | (go_simp; done) | (go_simp; rfl)); intro gb289 hg w13 hbox hb; have n0_ := kH HB hb; have n1_ := Aside0.mk (hbox); have n2_ := kG HB hg; have n3_ := kG HB hg; replace HB := n0_; have BK289 := n1_; have GW289 := n2_; have GE289 := n3_; clear n0_ n1_ n2_ n3_; clear hb hbox hg) | ((with_reducible refine gate_dst (N := 4) rfl ?_); (try (refine gate_guard (by rfl) ?_; dsimp only)); refine box_event ?hg (N := 4) ?hd (cs := #[.int .i64 a1_0, .int .i64 a1_1]) (t := 43) ?hr ?_; (case hd => rfl); (case hg => rfl); (case hr => first | (go_simp; done) | (go_simp; rfl)); intro gb290 hg w14 hbox hb; have n0_ := kB BK289 hb; have n1_ := kH HB hb; have n2_ := Aside0.mk (hbox); have n3_ := kG HB hg; have n4_ := kG HB hg; have n5_ := kL BK289 hg; have n6_ := kR BK289 hg; replace BK289 := n0_; replace HB := n1_; have BK290 := n2_; have GW290 := n3_; have GE290 := n4_; have NB289_290 := n5_; have NB290_289 := n6_; clear n0_ n1_ n2_ n3_ n4_ n5_ n6_; clear hb hbox hg; have hnb15 := NB290_289.out; have hnc15 := NB289_290.out; have hcz16_0 : w14.cell? ⟨gb290, 0, none⟩ = some (.int .i64 a1_0) := (blk_cell BK290.out 0).trans rfl; have hcz16_1 : w14.cell? ⟨gb290, 1, none⟩ = some (.int .i64 a1_1) := (blk_cell BK290.out 1).trans rfl; have hfz16_0 := blk_frozen BK290.out 0; have hfz16_1 := blk_frozen BK290.out 1; have hcz17_0 : w14.cell? ⟨gb289, 0, none⟩ = some (.int .i64 a0_0) := (blk_cell BK289.out 0).trans rfl; have hcz17_1 : w14.cell? ⟨gb289, 1, none⟩ = some (.int .i64 a0_1) := (blk_cell BK289.out 1).trans rfl; have hfz17_0 := blk_frozen BK289.out 0; have hfz17_1 := blk_frozen BK289.out 1) | ((with_reducible refine gate_callee (f := 80) rfl ?_); refine kE (some 46) Try.func80 #[.int .i64 (wrap64 (a0_0 * (wrap64 ((wrap64 (a1_0 - a1_1)) * a2)))), .int .i64 (wrap64 ((wrap64 (a1_1 * a0_0)) - (wrap64 (a1_0 * a0_1)))), .int .i64 (wrap64 (a0_1 * (wrap64 ((wrap64 (a1_0 - a1_1)) * a2)))), .int .i64 (wrap64 ((wrap64 (a1_1 * a0_0)) - (wrap64 (a1_0 * a0_1))))] rfl ?_; (with_reducible refine (impl_twoAges.calls k (wrap64 (a0_0 * (wrap64 ((wrap64 (a1_0 - a1_1)) * a2)))) (wrap64 ((wrap64 (a1_1 * a0_0)) - (wrap64 (a1_0 * a0_1)))) (wrap64 (a0_1 * (wrap64 ((wrap64 (a1_0 - a1_1)) * a2)))) (wrap64 ((wrap64 (a1_1 * a0_0)) - (wrap64 (a1_0 * a0_1)))) t291 t292 t293 _ A10.out).mono ?_); rintro e w18 ⟨rfl, hb⟩; refine ⟨_, rfl, ?_⟩; have n0_ := kB BK289 hb; have n1_ := kB BK290 hb; have n2_ := kH HB hb; replace BK289 := n0_; replace BK290 := n1_; replace HB := n2_; clear n0_ n1_ n2_; (try clear hb)))
   refine bodyPost_ret (results_list (rs := [.tmp 6, .tmp 7, .tmp 8, .tmp 9]) rfl (by simp) (.tmp (.tmp (.tmp (.tmp .nil))))) rfl ?_
   exact ⟨by first | rfl | (simp [errW_none, errW_some] <;> rfl) | (simp only [← hji11]; first | rfl | (simp [errW_none, errW_some] <;> rfl)) | (simp [*, errW_none, errW_some] <;> rfl), kO⟩
  ·rw [if_neg c12] at H
   have c12b0 : decide ((ji11) ≤ 0) = false := decide_eq_false c12
   clear c12
   by_cases c19 : (wrap64 ((ji11) + (wrap64 (t293 * a2)))) ≤ 0
   ·rw [if_pos c19] at H
    have c19b0 : decide ((wrap64 ((ji11) + (wrap64 (t293 * a2)))) ≤ 0) = true := decide_eq_true c19
    clear c19
    simp only [Option.some.injEq, Prod.mk.injEq] at H
    obtain ⟨rfl, rfl, rfl, rfl⟩ := H
    go_enter Try.func82, Try.ntmps82
    go_wp2_with (first | ((with_reducible refine gate_dst (N := 3) rfl ?_); (try (refine gate_guard (by rfl) ?_; dsimp only)); refine box_event ?hg (N := 3) ?hd (cs := #[.int .i64 a0_0, .int .i64 a0_1]) (t := 43) ?hr ?_; (case hd => rfl); (case hg => rfl); (case hr => first | (go_simp; done) | (go_simp; rfl)); intro gb289 hg w20 hbox hb; have n0_ := kH HB hb; have n1_ := Aside0.mk (hbox); have n2_ := kG HB hg; have n3_ := kG HB hg; replace HB := n0_; have BK289 := n1_; have GW289 := n2_; have GE289 := n3_; clear n0_ n1_ n2_ n3_; clear hb hbox hg) | ((with_reducible refine gate_dst (N := 4) rfl ?_); (try (refine gate_guard (by rfl) ?_; dsimp only)); refine box_event ?hg (N := 4) ?hd (cs := #[.int .i64 a1_0, .int .i64 a1_1]) (t := 43) ?hr ?_; (case hd => rfl); (case hg => rfl); (case hr => first | (go_simp; done) | (go_simp; rfl)); intro gb290 hg w21 hbox hb; have n0_ := kB BK289 hb; have n1_ := kH HB hb; have n2_ := Aside0.mk (hbox); have n3_ := kG HB hg; have n4_ := kG HB hg; have n5_ := kL BK289 hg; have n6_ := kR BK289 hg; replace BK289 := n0_; replace HB := n1_; have BK290 := n2_; have GW290 := n3_; have GE290 := n4_; have NB289_290 := n5_; have NB290_289 := n6_; clear n0_ n1_ n2_ n3_ n4_ n5_ n6_; clear hb hbox hg; have hnb22 := NB290_289.out; have hnc22 := NB289_290.out; have hcz23_0 : w21.cell? ⟨gb290, 0, none⟩ = some (.int .i64 a1_0) := (blk_cell BK290.out 0).trans rfl; have hcz23_1 : w21.cell? ⟨gb290, 1, none⟩ = some (.int .i64 a1_1) := (blk_cell BK290.out 1).trans rfl; have hfz23_0 := blk_frozen BK290.out 0; have hfz23_1 := blk_frozen BK290.out 1; have hcz24_0 : w21.cell? ⟨gb289, 0, none⟩ = some (.int .i64 a0_0) := (blk_cell BK289.out 0).trans rfl; have hcz24_1 : w21.cell? ⟨gb289, 1, none⟩ = some (.int .i64 a0_1) := (blk_cell BK289.out 1).trans rfl; have hfz24_0 := blk_frozen BK289.out 0; have hfz24_1 := blk_frozen BK289.out 1) | ((with_reducible refine gate_callee (f := 80) rfl ?_); refine kE (some 46) Try.func80 #[.int .i64 (wrap64 (a0_0 * (wrap64 ((wrap64 (a1_0 - a1_1)) * a2)))), .int .i64 (wrap64 ((wrap64 (a1_1 * a0_0)) - (wrap64 (a1_0 * a0_1)))), .int .i64 (wrap64 (a0_1 * (wrap64 ((wrap64 (a1_0 - a1_1)) * a2)))), .int .i64 (wrap64 ((wrap64 (a1_1 * a0_0)) - (wrap64 (a1_0 * a0_1))))] rfl ?_; (with_reducible refine (impl_twoAges.calls k (wrap64 (a0_0 * (wrap64 ((wrap64 (a1_0 - a1_1)) * a2)))) (wrap64 ((wrap64 (a1_1 * a0_0)) - (wrap64 (a1_0 * a0_1)))) (wrap64 (a0_1 * (wrap64 ((wrap64 (a1_0 - a1_1)) * a2)))) (wrap64 ((wrap64 (a1_1 * a0_0)) - (wrap64 (a1_0 * a0_1)))) t291 t292 t293 _ A10.out).mono ?_); rintro e w25 ⟨rfl, hb⟩; refine ⟨_, rfl, ?_⟩; have n0_ := kB BK289 hb; have n1_ := kB BK290 hb; have n2_ := kH HB hb; replace BK289 := n0_; replace BK290 := n1_; replace HB := n2_; clear n0_ n1_ n2_; (try clear hb)))
    refine bodyPost_ret (results_list (rs := [.tmp 6, .tmp 7, .tmp 8, .tmp 9]) rfl (by simp) (.tmp (.tmp (.tmp (.tmp .nil))))) rfl ?_
    exact ⟨by first | rfl | (simp [errW_none, errW_some] <;> rfl) | (simp only [← hji11]; first | rfl | (simp [errW_none, errW_some] <;> rfl)) | (simp [*, errW_none, errW_some] <;> rfl), kO⟩
   ·rw [if_neg c19] at H
    have c19b0 : decide ((wrap64 ((ji11) + (wrap64 (t293 * a2)))) ≤ 0) = false := decide_eq_false c19
    clear c19
    simp only [Option.some.injEq, Prod.mk.injEq] at H
    obtain ⟨rfl, rfl, rfl, rfl⟩ := H
    go_enter Try.func82, Try.ntmps82
    go_wp2_with (first | ((with_reducible refine gate_dst (N := 3) rfl ?_); (try (refine gate_guard (by rfl) ?_; dsimp only)); refine box_event ?hg (N := 3) ?hd (cs := #[.int .i64 a0_0, .int .i64 a0_1]) (t := 43) ?hr ?_; (case hd => rfl); (case hg => rfl); (case hr => first | (go_simp; done) | (go_simp; rfl)); intro gb289 hg w26 hbox hb; have n0_ := kH HB hb; have n1_ := Aside0.mk (hbox); have n2_ := kG HB hg; have n3_ := kG HB hg; replace HB := n0_; have BK289 := n1_; have GW289 := n2_; have GE289 := n3_; clear n0_ n1_ n2_ n3_; clear hb hbox hg) | ((with_reducible refine gate_dst (N := 4) rfl ?_); (try (refine gate_guard (by rfl) ?_; dsimp only)); refine box_event ?hg (N := 4) ?hd (cs := #[.int .i64 a1_0, .int .i64 a1_1]) (t := 43) ?hr ?_; (case hd => rfl); (case hg => rfl); (case hr => first | (go_simp; done) | (go_simp; rfl)); intro gb290 hg w27 hbox hb; have n0_ := kB BK289 hb; have n1_ := kH HB hb; have n2_ := Aside0.mk (hbox); have n3_ := kG HB hg; have n4_ := kG HB hg; have n5_ := kL BK289 hg; have n6_ := kR BK289 hg; replace BK289 := n0_; replace HB := n1_; have BK290 := n2_; have GW290 := n3_; have GE290 := n4_; have NB289_290 := n5_; have NB290_289 := n6_; clear n0_ n1_ n2_ n3_ n4_ n5_ n6_; clear hb hbox hg; have hnb28 := NB290_289.out; have hnc28 := NB289_290.out; have hcz29_0 : w27.cell? ⟨gb290, 0, none⟩ = some (.int .i64 a1_0) := (blk_cell BK290.out 0).trans rfl; have hcz29_1 : w27.cell? ⟨gb290, 1, none⟩ = some (.int .i64 a1_1) := (blk_cell BK290.out 1).trans rfl; have hfz29_0 := blk_frozen BK290.out 0; have hfz29_1 := blk_frozen BK290.out 1; have hcz30_0 : w27.cell? ⟨gb289, 0, none⟩ = some (.int .i64 a0_0) := (blk_cell BK289.out 0).trans rfl; have hcz30_1 : w27.cell? ⟨gb289, 1, none⟩ = some (.int .i64 a0_1) := (blk_cell BK289.out 1).trans rfl; have hfz30_0 := blk_frozen BK289.out 0; have hfz30_1 := blk_frozen BK289.out 1) | ((with_reducible refine gate_callee (f := 80) rfl ?_); refine kE (some 46) Try.func80 #[.int .i64 (wrap64 (a0_0 * (wrap64 ((wrap64 (a1_0 - a1_1)) * a2)))), .int .i64 (wrap64 ((wrap64 (a1_1 * a0_0)) - (wrap64 (a1_0 * a0_1)))), .int .i64 (wrap64 (a0_1 * (wrap64 ((wrap64 (a1_0 - a1_1)) * a2)))), .int .i64 (wrap64 ((wrap64 (a1_1 * a0_0)) - (wrap64 (a1_0 * a0_1))))] rfl ?_; (with_reducible refine (impl_twoAges.calls k (wrap64 (a0_0 * (wrap64 ((wrap64 (a1_0 - a1_1)) * a2)))) (wrap64 ((wrap64 (a1_1 * a0_0)) - (wrap64 (a1_0 * a0_1)))) (wrap64 (a0_1 * (wrap64 ((wrap64 (a1_0 - a1_1)) * a2)))) (wrap64 ((wrap64 (a1_1 * a0_0)) - (wrap64 (a1_0 * a0_1)))) t291 t292 t293 _ A10.out).mono ?_); rintro e w31 ⟨rfl, hb⟩; refine ⟨_, rfl, ?_⟩; have n0_ := kB BK289 hb; have n1_ := kB BK290 hb; have n2_ := kH HB hb; replace BK289 := n0_; replace BK290 := n1_; replace HB := n2_; clear n0_ n1_ n2_; (try clear hb)))
    refine bodyPost_ret (results_list (rs := [.tmp 6, .tmp 7, .tmp 8, .tmp 9]) rfl (by simp) (.tmp (.tmp (.tmp (.tmp .nil))))) rfl ?_
    exact ⟨by first | rfl | (simp [errW_none, errW_some] <;> rfl) | (simp only [← hji11]; first | rfl | (simp [errW_none, errW_some] <;> rfl)) | (simp [*, errW_none, errW_some] <;> rfl), kO⟩

/-! ### impl_AgesFromTwo: function 41 -/
def impl_AgesFromTwo.f (k : Nat) (a0_0 : Int) (a0_1 : Int) (a1_0 : Int) (a1_1 : Int) (a2 : Int) : Option (Int × Int × Int × Bool) := (impl_IsRatio.f a0_0 a0_1).bind fun t296 => (if t296 = true then ((impl_IsRatio.f a1_0 a1_1).bind fun t297 => (if t297 = true then ((impl_between.f a2 (-120) 120).bind fun t298 => (if t298 = true then (if a2 = 0 then (some (0, 0, 0, false)) else ((impl_agesFromTwo.f k a0_0 a0_1 a1_0 a1_1 a2).bind fun bt299 => (some (bt299.1, bt299.2.1, bt299.2.2.1, bt299.2.2.2)))) else (some (0, 0, 0, false)))) else (some (0, 0, 0, false)))) else (some (0, 0, 0, false)))
set_option maxHeartbeats 8000000 in
set_option maxRecDepth 100000 in
theorem impl_AgesFromTwo.calls (k : Nat) (a0_0 : Int) (a0_1 : Int) (a1_0 : Int) (a1_1 : Int) (a2 : Int) (r1 : Int) (r2 : Int) (r3 : Int) (r4 : Bool) (w : World) (h : impl_AgesFromTwo.f k a0_0 a0_1 a1_0 a1_1 a2 = some (r1, r2, r3, r4)) :
  Calls Try.prog 41 #[.agg #[.int .i64 a0_0, .int .i64 a0_1], .agg #[.int .i64 a1_0, .int .i64 a1_1], .int .i64 a2] w fun e w' => e = .returned (.tuple #[.int .i64 r1, .int .i64 r2, .int .i64 r3, .bool r4]) ∧ Below w.heap.size w w' := by
 have hu43 := Try.underlying43
 have HB := Aside0.mk (Below.refl w.heap.size w)
 have H : ((impl_IsRatio.f a0_0 a0_1).bind fun t296 => (if t296 = true then ((impl_IsRatio.f a1_0 a1_1).bind fun t297 => (if t297 = true then ((impl_between.f a2 (-120) 120).bind fun t298 => (if t298 = true then (if a2 = 0 then (some (0, 0, 0, false)) else ((impl_agesFromTwo.f k a0_0 a0_1 a1_0 a1_1 a2).bind fun bt299 => (some (bt299.1, bt299.2.1, bt299.2.2.1, bt299.2.2.2)))) else (some (0, 0, 0, false)))) else (some (0, 0, 0, false)))) else (some (0, 0, 0, false)))) = some (r1, r2, r3, r4) := h
 clear h
 replace H := Option.bind_eq_some_iff.mp H
 obtain ⟨t296, A40, H⟩ := H
 replace H : (if t296 = true then ((impl_IsRatio.f a1_0 a1_1).bind fun t297 => (if t297 = true then ((impl_between.f a2 (-120) 120).bind fun t298 => (if t298 = true then (if a2 = 0 then (some (0, 0, 0, false)) else ((impl_agesFromTwo.f k a0_0 a0_1 a1_0 a1_1 a2).bind fun bt299 => (some (bt299.1, bt299.2.1, bt299.2.2.1, bt299.2.2.2)))) else (some (0, 0, 0, false)))) else (some (0, 0, 0, false)))) else (some (0, 0, 0, false))) = some (r1, r2, r3, r4) := H
 have A4 := Aside0.mk A40
 clear A40
 by_cases c5 : t296 = true
 ·subst c5
  have H1 : ((impl_IsRatio.f a1_0 a1_1).bind fun t297 => (if t297 = true then ((impl_between.f a2 (-120) 120).bind fun t298 => (if t298 = true then (if a2 = 0 then (some (0, 0, 0, false)) else ((impl_agesFromTwo.f k a0_0 a0_1 a1_0 a1_1 a2).bind fun bt299 => (some (bt299.1, bt299.2.1, bt299.2.2.1, bt299.2.2.2)))) else (some (0, 0, 0, false)))) else (some (0, 0, 0, false)))) = some (r1, r2, r3, r4) := by rw [if_pos rfl] at H; exact H
  clear H
  have H := H1
  clear H1
  replace H := Option.bind_eq_some_iff.mp H
  obtain ⟨t297, A60, H⟩ := H
  replace H : (if t297 = true then ((impl_between.f a2 (-120) 120).bind fun t298 => (if t298 = true then (if a2 = 0 then (some (0, 0, 0, false)) else ((impl_agesFromTwo.f k a0_0 a0_1 a1_0 a1_1 a2).bind fun bt299 => (some (bt299.1, bt299.2.1, bt299.2.2.1, bt299.2.2.2)))) else (some (0, 0, 0, false)))) else (some (0, 0, 0, false))) = some (r1, r2, r3, r4) := H
  have A6 := Aside0.mk A60
  clear A60
  by_cases c7 : t297 = true
  ·subst c7
   have H1 : ((impl_between.f a2 (-120) 120).bind fun t298 => (if t298 = true then (if a2 = 0 then (some (0, 0, 0, false)) else ((impl_agesFromTwo.f k a0_0 a0_1 a1_0 a1_1 a2).bind fun bt299 => (some (bt299.1, bt299.2.1, bt299.2.2.1, bt299.2.2.2)))) else (some (0, 0, 0, false)))) = some (r1, r2, r3, r4) := by rw [if_pos rfl] at H; exact H
   clear H
   have H := H1
   clear H1
   replace H := Option.bind_eq_some_iff.mp H
   obtain ⟨t298, A80, H⟩ := H
   replace H : (if t298 = true then (if a2 = 0 then (some (0, 0, 0, false)) else ((impl_agesFromTwo.f k a0_0 a0_1 a1_0 a1_1 a2).bind fun bt299 => (some (bt299.1, bt299.2.1, bt299.2.2.1, bt299.2.2.2)))) else (some (0, 0, 0, false))) = some (r1, r2, r3, r4) := H
   have A8 := Aside0.mk A80
   clear A80
   by_cases c9 : t298 = true
   ·subst c9
    have H1 : (if a2 = 0 then (some (0, 0, 0, false)) else ((impl_agesFromTwo.f k a0_0 a0_1 a1_0 a1_1 a2).bind fun bt299 => (some (bt299.1, bt299.2.1, bt299.2.2.1, bt299.2.2.2)))) = some (r1, r2, r3, r4) := by rw [if_pos rfl] at H; exact H
    clear H
    have H := H1
    clear H1
    by_cases c10 : a2 = 0
    ·rw [if_pos c10] at H
     have c10b0 : (a2 == 0) = true := beq_iff_eq.mpr c10
     have c10b1 : (a2 != 0) = false := bne_eq_false_iff_eq.mpr c10
     clear c10
     simp only [Option.some.injEq, Prod.mk.injEq] at H
     obtain ⟨rfl, rfl, rfl, rfl⟩ := H
     go_enter Try.func41, Try.ntmps41
     go_wp2_with (first | ((with_reducible refine gate_dst (N := 3) rfl ?_); refine box_event ?hg (N := 3) ?hd (cs := #[.int .i64 a0_0, .int .i64 a0_1]) (t := 43) ?hr ?_; (case hd => rfl); (case hg => rfl); (case hr => first | (go_simp; done) | (go_simp; rfl)); intro gb294 hg w11 hbox hb; have n0_ := kH HB hb; have n1_ := Aside0.mk (hbox); have n2_ := kG HB hg; have n3_ := kG HB hg; replace HB := n0_; have BK294 := n1_; have GW294 := n2_; have GE294 := n3_; clear n0_ n1_ n2_ n3_; clear hb hbox hg) | ((with_reducible refine gate_dst (N := 4) rfl ?_); refine box_event ?hg (N := 4) ?hd (cs := #[.int .i64 a1_0, .int .i64 a1_1]) (t := 43) ?hr ?_; (case hd => rfl); (case hg => rfl); (case hr => first | (go_simp; done) | (go_simp; rfl)); intro gb295 hg w12 hbox hb; have n0_ := kB BK294 hb; have n1_ := kH HB hb; have n2_ := Aside0.mk (hbox); have n3_ := kG HB hg; have n4_ := kG HB hg; have n5_ := kL BK294 hg; have n6_ := kR BK294 hg; replace BK294 := n0_; replace HB := n1_; have BK295 := n2_; have GW295 := n3_; have GE295 := n4_; have NB294_295 := n5_; have NB295_294 := n6_; clear n0_ n1_ n2_ n3_ n4_ n5_ n6_; clear hb hbox hg; have hnb13 := NB294_295.out; have hnc13 := NB295_294.out; have hcz14_0 : w12.cell? ⟨gb294, 0, none⟩ = some (.int .i64 a0_0) := (blk_cell BK294.out 0).trans rfl; have hcz14_1 : w12.cell? ⟨gb294, 1, none⟩ = some (.int .i64 a0_1) := (blk_cell BK294.out 1).trans rfl; have hfz14_0 := blk_frozen BK294.out 0; have hfz14_1 := blk_frozen BK294.out 1) | ((with_reducible refine gate_callee (f := 49) rfl ?_); refine kE (some 11) Try.func49 #[.agg #[.int .i64 a0_0, .int .i64 a0_1]] rfl ?_; (with_reducible refine (impl_IsRatio.calls a0_0 a0_1 true _ A4.out).mono ?_); rintro e w15 ⟨rfl, hb⟩; refine ⟨_, rfl, ?_⟩; have n0_ := kB BK294 hb; have n1_ := kB BK295 hb; have n2_ := kH HB hb; replace BK294 := n0_; replace BK295 := n1_; replace HB := n2_; clear n0_ n1_ n2_; (try clear hb); have hcz16_0 : w15.cell? ⟨gb295, 0, none⟩ = some (.int .i64 a1_0) := (blk_cell BK295.out 0).trans rfl; have hcz16_1 : w15.cell? ⟨gb295, 1, none⟩ = some (.int .i64 a1_1) := (blk_cell BK295.out 1).trans rfl; have hfz16_0 := blk_frozen BK295.out 0; have hfz16_1 := blk_frozen BK295.out 1) | (go_at_call 49; (with_reducible refine (impl_IsRatio.calls a1_0 a1_1 true _ A6.out).mono ?_); rintro e w17 ⟨rfl, hb⟩; have n0_ := kB BK294 hb; have n1_ := kB BK295 hb; have n2_ := kH HB hb; replace BK294 := n0_; replace BK295 := n1_; replace HB := n2_; clear n0_ n1_ n2_; (try clear hb)) | (go_at_call 57; (with_reducible refine (impl_between.calls a2 (-120) 120 true _ A8.out).mono ?_); rintro e w' ⟨rfl, ⟨nd, rfl⟩⟩))
     refine bodyPost_ret (results_list (rs := [.tmp 6, .tmp 7, .tmp 8, .tmp 9]) rfl (by simp) (.tmp (.tmp (.tmp (.tmp .nil))))) rfl ?_
     exact ⟨by first | rfl | (simp [errW_none, errW_some] <;> rfl) | (simp [*, errW_none, errW_some] <;> rfl), kO⟩
    ·rw [if_neg c10] at H
     have c10b0 : (a2 == 0) = false := beq_eq_false_iff_ne.mpr c10
     have c10b1 : (a2 != 0) = true := bne_iff_ne.mpr c10
     replace H := Option.bind_eq_some_iff.mp H
     obtain ⟨⟨t299, t300, t301, t302⟩, A180, H⟩ := H
     replace H : (some (t299, t300, t301, t302)) = some (r1, r2, r3, r4) := H
     have A18 := Aside0.mk A180
     clear A180
     simp only [Option.some.injEq, Prod.mk.injEq] at H
     obtain ⟨rfl, rfl, rfl, rfl⟩ := H
     go_enter Try.func41, Try.ntmps41
     go_wp2_with (first | ((with_reducible refine gate_dst (N := 3) rfl ?_); refine box_event ?hg (N := 3) ?hd (cs := #[.int .i64 a0_0, .int .i64 a0_1]) (t := 43) ?hr ?_; (case hd => rfl); (case hg => rfl); (case hr => first | (go_simp; done) | (go_simp; rfl)); intro gb294 hg w19 hbox hb; have n0_ := kH HB hb; have n1_ := Aside0.mk (hbox); have n2_ := kG HB hg; have n3_ := kG HB hg; replace HB := n0_; have BK294 := n1_; have GW294 := n2_; have GE294 := n3_; clear n0_ n1_ n2_ n3_; clear hb hbox hg) | ((with_reducible refine gate_dst (N := 4) rfl ?_); refine box_event ?hg (N := 4) ?hd (cs := #[.int .i64 a1_0, .int .i64 a1_1]) (t := 43) ?hr ?_; (case hd => rfl); (case hg => rfl); (case hr => first | (go_simp; done) | (go_simp; rfl)); intro gb295 hg w20 hbox hb; have n0_ := kB BK294 hb; have n1_ := kH HB hb; have n2_ := Aside0.mk (hbox); have n3_ := kG HB hg; have n4_ := kG HB hg; have n5_ := kL BK294 hg; have n6_ := kR BK294 hg; replace BK294 := n0_; replace HB := n1_; have BK295 := n2_; have GW295 := n3_; have GE295 := n4_; have NB294_295 := n5_; have NB295_294 := n6_; clear n0_ n1_ n2_ n3_ n4_ n5_ n6_; clear hb hbox hg; have hnb21 := NB294_295.out; have hnc21 := NB295_294.out; have hcz22_0 : w20.cell? ⟨gb294, 0, none⟩ = some (.int .i64 a0_0) := (blk_cell BK294.out 0).trans rfl; have hcz22_1 : w20.cell? ⟨gb294, 1, none⟩ = some (.int .i64 a0_1) := (blk_cell BK294.out 1).trans rfl; have hfz22_0 := blk_frozen BK294.out 0; have hfz22_1 := blk_frozen BK294.out 1) | ((with_reducible refine gate_callee (f := 49) rfl ?_); refine kE (some 11) Try.func49 #[.agg #[.int .i64 a0_0, .int .i64 a0_1]] rfl ?_; (with_reducible refine (impl_IsRatio.calls a0_0 a0_1 true _ A4.out).mono ?_); rintro e w23 ⟨rfl, hb⟩; refine ⟨_, rfl, ?_⟩; have n0_ := kB BK294 hb; have n1_ := kB BK295 hb; have n2_ := kH HB hb; replace BK294 := n0_; replace BK295 := n1_; replace HB := n2_; clear n0_ n1_ n2_; (try clear hb); have hcz24_0 : w23.cell? ⟨gb295, 0, none⟩ = some (.int .i64 a1_0) := (blk_cell BK295.out 0).trans rfl; have hcz24_1 : w23.cell? ⟨gb295, 1, none⟩ = some (.int .i64 a1_1) := (blk_cell BK295.out 1).trans rfl; have hfz24_0 := blk_frozen BK295.out 0; have hfz24_1 := blk_frozen BK295.out 1) | (go_at_call 49; (with_reducible refine (impl_IsRatio.calls a1_0 a1_1 true _ A6.out).mono ?_); rintro e w25 ⟨rfl, hb⟩; have n0_ := kB BK294 hb; have n1_ := kB BK295 hb; have n2_ := kH HB hb; replace BK294 := n0_; replace BK295 := n1_; replace HB := n2_; clear n0_ n1_ n2_; (try clear hb)) | (go_at_call 57; (with_reducible refine (impl_between.calls a2 (-120) 120 true _ A8.out).mono ?_); rintro e w' ⟨rfl, ⟨nd, rfl⟩⟩; have hcz26_0 : w25.cell? ⟨gb294, 0, none⟩ = some (.int .i64 a0_0) := (blk_cell BK294.out 0).trans rfl; have hcz26_1 : w25.cell? ⟨gb294, 1, none⟩ = some (.int .i64 a0_1) := (blk_cell BK294.out 1).trans rfl; have hfz26_0 := blk_frozen BK294.out 0; have hfz26_1 := blk_frozen BK294.out 1; have hcz27_0 : w25.cell? ⟨gb295, 0, none⟩ = some (.int .i64 a1_0) := (blk_cell BK295.out 0).trans rfl; have hcz27_1 : w25.cell? ⟨gb295, 1, none⟩ = some (.int .i64 a1_1) := (blk_cell BK295.out 1).trans rfl; have hfz27_0 := blk_frozen BK295.out 0; have hfz27_1 := blk_frozen BK295.out 1) | ((with_reducible refine gate_callee (f := 82) rfl ?_); refine kE (some 30) Try.func82 #[.agg #[.int .i64 a0_0, .int .i64 a0_1], .agg #[.int .i64 a1_0, .int .i64 a1_1], .int .i64 a2] rfl ?_; (with_reducible refine (impl_agesFromTwo.calls k a0_0 a0_1 a1_0 a1_1 a2 t299 t300 t301 t302 _ A18.out).mono ?_); rintro e w28 ⟨rfl, hb⟩; refine ⟨_, rfl, ?_⟩; have n0_ := kB BK294 hb; have n1_ := kB BK295 hb; have n2_ := kH HB hb; replace BK294 := n0_; replace BK295 := n1_; replace HB := n2_; clear n0_ n1_ n2_; (try clear hb)))
     refine bodyPost_ret (results_list (rs := [.tmp 6, .tmp 7, .tmp 8, .tmp 9]) rfl (by simp) (.tmp (.tmp (.tmp (.tmp .nil))))) rfl ?_
     exact ⟨by first | rfl | (simp [errW_none, errW_some] <;> rfl) | (simp [*, errW_none, errW_some] <;> rfl), kO⟩
   ·replace c9 := Bool.eq_false_iff.mpr c9
    subst c9
    have H1 : (some (0, 0, 0, false)) = some (r1, r2, r3, r4) := by rw [if_neg (show ¬ (false = true) by decide)] at H; exact H
    clear H
    have H := H1
    clear H1
    simp only [Option.some.injEq, Prod.mk.injEq] at H
    obtain ⟨rfl, rfl, rfl, rfl⟩ := H
    go_enter Try.func41, Try.ntmps41
    go_wp2_with (first | ((with_reducible refine gate_dst (N := 3) rfl ?_); refine box_event ?hg (N := 3) ?hd (cs := #[.int .i64 a0_0, .int .i64 a0_1]) (t := 43) ?hr ?_; (case hd => rfl); (case hg => rfl); (case hr => first | (go_simp; done) | (go_simp; rfl)); intro gb294 hg w29 hbox hb; have n0_ := kH HB hb; have n1_ := Aside0.mk (hbox); have n2_ := kG HB hg; have n3_ := kG HB hg; replace HB := n0_; have BK294 := n1_; have GW294 := n2_; have GE294 := n3_; clear n0_ n1_ n2_ n3_; clear hb hbox hg) | ((with_reducible refine gate_dst (N := 4) rfl ?_); refine box_event ?hg (N := 4) ?hd (cs := #[.int .i64 a1_0, .int .i64 a1_1]) (t := 43) ?hr ?_; (case hd => rfl); (case hg => rfl); (case hr => first | (go_simp; done) | (go_simp; rfl)); intro gb295 hg w30 hbox hb; have n0_ := kB BK294 hb; have n1_ := kH HB hb; have n2_ := Aside0.mk (hbox); have n3_ := kG HB hg; have n4_ := kG HB hg; have n5_ := kL BK294 hg; have n6_ := kR BK294 hg; replace BK294 := n0_; replace HB := n1_; have BK295 := n2_; have GW295 := n3_; have GE295 := n4_; have NB294_295 := n5_; have NB295_294 := n6_; clear n0_ n1_ n2_ n3_ n4_ n5_ n6_; clear hb hbox hg; have hnb31 := NB294_295.out; have hnc31 := NB295_294.out; have hcz32_0 : w30.cell? ⟨gb294, 0, none⟩ = some (.int .i64 a0_0) := (blk_cell BK294.out 0).trans rfl; have hcz32_1 : w30.cell? ⟨gb294, 1, none⟩ = some (.int .i64 a0_1) := (blk_cell BK294.out 1).trans rfl; have hfz32_0 := blk_frozen BK294.out 0; have hfz32_1 := blk_frozen BK294.out 1) | ((with_reducible refine gate_callee (f := 49) rfl ?_); refine kE (some 11) Try.func49 #[.agg #[.int .i64 a0_0, .int .i64 a0_1]] rfl ?_; (with_reducible refine (impl_IsRatio.calls a0_0 a0_1 true _ A4.out).mono ?_); rintro e w33 ⟨rfl, hb⟩; refine ⟨_, rfl, ?_⟩; have n0_ := kB BK294 hb; have n1_ := kB BK295 hb; have n2_ := kH HB hb; replace BK294 := n0_; replace BK295 := n1_; replace HB := n2_; clear n0_ n1_ n2_; (try clear hb); have hcz34_0 : w33.cell? ⟨gb295, 0, none⟩ = some (.int .i64 a1_0) := (blk_cell BK295.out 0).trans rfl; have hcz34_1 : w33.cell? ⟨gb295, 1, none⟩ = some (.int .i64 a1_1) := (blk_cell BK295.out 1).trans rfl; have hfz34_0 := blk_frozen BK295.out 0; have hfz34_1 := blk_frozen BK295.out 1) | (go_at_call 49; (with_reducible refine (impl_IsRatio.calls a1_0 a1_1 true _ A6.out).mono ?_); rintro e w35 ⟨rfl, hb⟩; have n0_ := kB BK294 hb; have n1_ := kB BK295 hb; have n2_ := kH HB hb; replace BK294 := n0_; replace BK295 := n1_; replace HB := n2_; clear n0_ n1_ n2_; (try clear hb)) | (go_at_call 57; (with_reducible refine (impl_between.calls a2 (-120) 120 false _ A8.out).mono ?_); rintro e w' ⟨rfl, ⟨nd, rfl⟩⟩))
    refine bodyPost_ret (results_list (rs := [.tmp 6, .tmp 7, .tmp 8, .tmp 9]) rfl (by simp) (.tmp (.tmp (.tmp (.tmp .nil))))) rfl ?_
    exact ⟨by first | rfl | (simp [errW_none, errW_some] <;> rfl) | (simp [*, errW_none, errW_some] <;> rfl), kO⟩
  ·replace c7 := Bool.eq_false_iff.mpr c7
   subst c7
   have H1 : (some (0, 0, 0, false)) = some (r1, r2, r3, r4) := by rw [if_neg (show ¬ (false = true) by decide)] at H; exact H
   clear H
   have H := H1
   clear H1
   simp only [Option.some.injEq, Prod.mk.injEq] at H
   obtain ⟨rfl, rfl, rfl, rfl⟩ := H
   go_enter Try.func41, Try.ntmps41
   go_wp2_with (first | ((with_reducible refine gate_dst (N := 3) rfl ?_); refine box_event ?hg (N := 3) ?hd (cs := #[.int .i64 a0_0, .int .i64 a0_1]) (t := 43) ?hr ?_; (case hd => rfl); (case hg => rfl); (case hr => first | (go_simp; done) | (go_simp; rfl)); intro gb294 hg w36 hbox hb; have n0_ := kH HB hb; have n1_ := Aside0.mk (hbox); have n2_ := kG HB hg; have n3_ := kG HB hg; replace HB := n0_; have BK294 := n1_; have GW294 := n2_; have GE294 := n3_; clear n0_ n1_ n2_ n3_; clear hb hbox hg) | ((with_reducible refine gate_dst (N := 4) rfl ?_); refine box_event ?hg (N := 4) ?hd (cs := #[.int .i64 a1_0, .int .i64 a1_1]) (t := 43) ?hr ?_; (case hd => rfl); (case hg => rfl); (case hr => first | (go_simp; done) | (go_simp; rfl)); intro gb295 hg w37 hbox hb; have n0_ := kB BK294 hb; have n1_ := kH HB hb; have n2_ := Aside0.mk (hbox); have n3_ := kG HB hg; have n4_ := kG HB hg; have n5_ := kL BK294 hg; have n6_ := kR BK294 hg; replace BK294 := n0_; replace HB := n1_; have BK295 := n2_; have GW295 := n3_; have GE295 := n4_; have NB294_295 := n5_; have NB295_294 := n6_; clear n0_ n1_ n2_ n3_ n4_ n5_ n6_; clear hb hbox hg; have hnb38 := NB294_295.out; have hnc38 := NB295_294.out; have hcz39_0 : w37.cell? ⟨gb294, 0, none⟩ = some (.int .i64 a0_0) := (blk_cell BK294.out 0).trans rfl; have hcz39_1 : w37.cell? ⟨gb294, 1, none⟩ = some (.int .i64 a0_1) := (blk_cell BK294.out 1).trans rfl; have hfz39_0 := blk_frozen BK294.out 0; have hfz39_1 := blk_frozen BK294.out 1) | ((with_reducible refine gate_callee (f := 49) rfl ?_); refine kE (some 11) Try.func49 #[.agg #[.int .i64 a0_0, .int .i64 a0_1]] rfl ?_; (with_reducible refine (impl_IsRatio.calls a0_0 a0_1 true _ A4.out).mono ?_); rintro e w40 ⟨rfl, hb⟩; refine ⟨_, rfl, ?_⟩; have n0_ := kB BK294 hb; have n1_ := kB BK295 hb; have n2_ := kH HB hb; replace BK294 := n0_; replace BK295 := n1_; replace HB := n2_; clear n0_ n1_ n2_; (try clear hb); have hcz41_0 : w40.cell? ⟨gb295, 0, none⟩ = some (.int .i64 a1_0) := (blk_cell BK295.out 0).trans rfl; have hcz41_1 : w40.cell? ⟨gb295, 1, none⟩ = some (.int .i64 a1_1) := (blk_cell BK295.out 1).trans rfl; have hfz41_0 := blk_frozen BK295.out 0; have hfz41_1 := blk_frozen BK295.out 1) | (go_at_call 49; (with_reducible refine (impl_IsRatio.calls a1_0 a1_1 false _ A6.out).mono ?_); rintro e w42 ⟨rfl, hb⟩; have n0_ := kB BK294 hb; have n1_ := kB BK295 hb; have n2_ := kH HB hb; replace BK294 := n0_; replace BK295 := n1_; replace HB := n2_; clear n0_ n1_ n2_; (try clear hb)))
   refine bodyPost_ret (results_list (rs := [.tmp 6, .tmp 7, .tmp 8, .tmp 9]) rfl (by simp) (.tmp (.tmp (.tmp (.tmp .nil))))) rfl ?_
   exact ⟨by first | rfl | (simp [errW_none, errW_some] <;> rfl) | (simp [*, errW_none, errW_some] <;> rfl), kO⟩
 ·replace c5 := Bool.eq_false_iff.mpr c5
  subst c5
  have H1 : (some (0, 0, 0, false)) = some (r1, r2, r3, r4) := by rw [if_neg (show ¬ (false = true) by decide)] at H; exact H
  clear H
  have H := H1
  clear H1
  simp only [Option.some.injEq, Prod.mk.injEq] at H
  obtain ⟨rfl, rfl, rfl, rfl⟩ := H
  go_enter Try.func41, Try.ntmps41
  go_wp2_with (first | ((with_reducible refine gate_dst (N := 3) rfl ?_); refine box_event ?hg (N := 3) ?hd (cs := #[.int .i64 a0_0, .int .i64 a0_1]) (t := 43) ?hr ?_; (case hd => rfl); (case hg => rfl); (case hr => first | (go_simp; done) | (go_simp; rfl)); intro gb294 hg w43 hbox hb; have n0_ := kH HB hb; have n1_ := Aside0.mk (hbox); have n2_ := kG HB hg; have n3_ := kG HB hg; replace HB := n0_; have BK294 := n1_; have GW294 := n2_; have GE294 := n3_; clear n0_ n1_ n2_ n3_; clear hb hbox hg) | ((with_reducible refine gate_dst (N := 4) rfl ?_); refine box_event ?hg (N := 4) ?hd (cs := #[.int .i64 a1_0, .int .i64 a1_1]) (t := 43) ?hr ?_; (case hd => rfl); (case hg => rfl); (case hr => first | (go_simp; done) | (go_simp; rfl)); intro gb295 hg w44 hbox hb; have n0_ := kB BK294 hb; have n1_ := kH HB hb; have n2_ := Aside0.mk (hbox); have n3_ := kG HB hg; have n4_ := kG HB hg; have n5_ := kL BK294 hg; have n6_ := kR BK294 hg; replace BK294 := n0_; replace HB := n1_; have BK295 := n2_; have GW295 := n3_; have GE295 := n4_; have NB294_295 := n5_; have NB295_294 := n6_; clear n0_ n1_ n2_ n3_ n4_ n5_ n6_; clear hb hbox hg; have hnb45 := NB294_295.out; have hnc45 := NB295_294.out; have hcz46_0 : w44.cell? ⟨gb294, 0, none⟩ = some (.int .i64 a0_0) := (blk_cell BK294.out 0).trans rfl; have hcz46_1 : w44.cell? ⟨gb294, 1, none⟩ = some (.int .i64 a0_1) := (blk_cell BK294.out 1).trans rfl; have hfz46_0 := blk_frozen BK294.out 0; have hfz46_1 := blk_frozen BK294.out 1) | ((with_reducible refine gate_callee (f := 49) rfl ?_); refine kE (some 11) Try.func49 #[.agg #[.int .i64 a0_0, .int .i64 a0_1]] rfl ?_; (with_reducible refine (impl_IsRatio.calls a0_0 a0_1 false _ A4.out).mono ?_); rintro e w47 ⟨rfl, hb⟩; refine ⟨_, rfl, ?_⟩; have n0_ := kB BK294 hb; have n1_ := kB BK295 hb; have n2_ := kH HB hb; replace BK294 := n0_; replace BK295 := n1_; replace HB := n2_; clear n0_ n1_ n2_; (try clear hb)))
  refine bodyPost_ret (results_list (rs := [.tmp 6, .tmp 7, .tmp 8, .tmp 9]) rfl (by simp) (.tmp (.tmp (.tmp (.tmp .nil))))) rfl ?_
  exact ⟨by first | rfl | (simp [errW_none, errW_some] <;> rfl) | (simp [*, errW_none, errW_some] <;> rfl), kO⟩

/-! ### spec_AgesFromTwo: function 42 -/
mutual
def spec_AgesFromTwo.j0 : Nat → Int → Bool → Int → Int → Int → Int → Option (Int × Int × Int × Bool)
 | 0, _, _, _, _, _, _ => none
 | k + 1, x2, x31, x304000, x304001, x305000, x305001 => if x31 = true then (some (0, 0, 0, false)) else (if (wrap64 ((wrap64 (x305001 * x304000)) - (wrap64 (x305000 * x304001)))) < 0 then (spec_AgesFromTwo.j1 k x2 (wrap64 (-(wrap64 ((wrap64 (x305001 * x304000)) - (wrap64 (x305000 * x304001)))))) (wrap64 (-(wrap64 (x2 * (wrap64 (x305000 - x305001)))))) x304000 x304001) else (spec_AgesFromTwo.j1 k x2 (wrap64 ((wrap64 (x305001 * x304000)) - (wrap64 (x305000 * x304001)))) (wrap64 (x2 * (wrap64 (x305000 - x305001)))) x304000 x304001))
def spec_AgesFromTwo.j1 : Nat → Int → Int → Int → Int → Int → Option (Int × Int × Int × Bool)
 | 0, _, _, _, _, _ => none
 | k + 1, x2, x10, x11, x304000, x304001 => if x10 = 0 then (spec_AgesFromTwo.j2 k x2 x10 x11 true x304000 x304001) else (spec_AgesFromTwo.j2 k x2 x10 x11 (decide (x11 ≤ 0)) x304000 x304001)
def spec_AgesFromTwo.j2 : Nat → Int → Int → Int → Bool → Int → Int → Option (Int × Int × Int × Bool)
 | 0, _, _, _, _, _, _ => none
 | k + 1, x2, x10, x11, x61, x304000, x304001 => if x61 = true then (some (0, 0, 0, false)) else ((spec_raThree.f k (wrap64 (x304000 * x11)) (wrap64 (x304001 * x11)) x10).bind fun bt308 => (if (wrap64 (bt308.1 + (wrap64 (x2 * bt308.2.2)))) ≤ 0 then (some (0, 0, 0, false)) else (if (wrap64 (bt308.2.1 + (wrap64 (x2 * bt308.2.2)))) ≤ 0 then (some (0, 0, 0, false)) else (some (bt308.1, bt308.2.1, bt308.2.2, true)))))
end
def spec_AgesFromTwo.f (k : Nat) (a0_0 : Int) (a0_1 : Int) (a1_0 : Int) (a1_1 : Int) (a2 : Int) : Option (Int × Int × Int × Bool) := (spec_raGood.f a0_0 a0_1).bind fun t305 => (if t305 = true then ((spec_raGood.f a1_0 a1_1).bind fun t306 => (if t306 = true then ((spec_l1In.f a2 (-120) 120).bind fun t307 => (if t307 = true then (spec_AgesFromTwo.j0 k a2 (a2 == 0) a0_0 a0_1 a1_0 a1_1) else (spec_AgesFromTwo.j0 k a2 true a0_0 a0_1 a1_0 a1_1))) else (spec_AgesFromTwo.j0 k a2 true a0_0 a0_1 a1_0 a1_1))) else (spec_AgesFromTwo.j0 k a2 true a0_0 a0_1 a1_0 a1_1))
set_option maxHeartbeats 8000000 in
set_option maxRecDepth 100000 in
theorem spec_AgesFromTwo.calls (k : Nat) (a0_0 : Int) (a0_1 : Int) (a1_0 : Int) (a1_1 : Int) (a2 : Int) (r1 : Int) (r2 : Int) (r3 : Int) (r4 : Bool) (w : World) (h : spec_AgesFromTwo.f k a0_0 a0_1 a1_0 a1_1 a2 = some (r1, r2, r3, r4)) :
  Calls Try.prog 42 #[.agg #[.int .i64 a0_0, .int .i64 a0_1], .agg #[.int .i64 a1_0, .int .i64 a1_1], .int .i64 a2] w fun e w' => e = .returned (.tuple #[.int .i64 r1, .int .i64 r2, .int .i64 r3, .bool r4]) ∧ Below w.heap.size w w' := by
 have hu43 := Try.underlying43
 have HB := Aside0.mk (Below.refl w.heap.size w)
 have H : ((spec_raGood.f a0_0 a0_1).bind fun t305 => (if t305 = true then ((spec_raGood.f a1_0 a1_1).bind fun t306 => (if t306 = true then ((spec_l1In.f a2 (-120) 120).bind fun t307 => (if t307 = true then (spec_AgesFromTwo.j0 k a2 (a2 == 0) a0_0 a0_1 a1_0 a1_1) else (spec_AgesFromTwo.j0 k a2 true a0_0 a0_1 a1_0 a1_1))) else (spec_AgesFromTwo.j0 k a2 true a0_0 a0_1 a1_0 a1_1))) else (spec_AgesFromTwo.j0 k a2 true a0_0 a0_1 a1_0 a1_1))) = some (r1, r2, r3, r4) := h
 clear h
 have HC4 := Aside0.mk H
 clear H
 go_enter Try.func42, Try.ntmps42
 go_upto_region 1 with (first | ((with_reducible refine gate_dst (N := 3) rfl ?_); refine box_event ?hg (N := 3) ?hd (cs := #[.int .i64 a0_0, .int .i64 a0_1]) (t := 43) ?hr ?_; (case hd => rfl); (case hg => rfl); (case hr => first | (go_simp; done) | (go_simp; rfl)); intro gb303 hg w5 hbox hb; have n0_ := kH HB hb; have n1_ := Aside0.mk (hbox); have n2_ := kG HB hg; have n3_ := kG HB hg; replace HB := n0_; have BK303 := n1_; have GW303 := n2_; have GE303 := n3_; clear n0_ n1_ n2_ n3_; clear hb hbox hg) | ((with_reducible refine gate_dst (N := 4) rfl ?_); refine box_event ?hg (N := 4) ?hd (cs := #[.int .i64 a1_0, .int .i64 a1_1]) (t := 43) ?hr ?_; (case hd => rfl); (case hg => rfl); (case hr => first | (go_simp; done) | (go_simp; rfl)); intro gb304 hg w6 hbox hb; have n0_ := kB BK303 hb; have n1_ := kH HB hb; have n2_ := Aside0.mk (hbox); have n3_ := kG HB hg; have n4_ := kG HB hg; have n5_ := kL BK303 hg; have n6_ := kR BK303 hg; replace BK303 := n0_; replace HB := n1_; have BK304 := n2_; have GW304 := n3_; have GE304 := n4_; have NB303_304 := n5_; have NB304_303 := n6_; clear n0_ n1_ n2_ n3_ n4_ n5_ n6_; clear hb hbox hg))
 (try simp only [Act.put, List.setIfInBounds_toArray, List.set_cons_zero, List.set_cons_succ])
 go_cut [31] from 1 to 0 (fun v31 wc => ∃ (kq : Nat) (x31_3 : Bool), v31 = .bool x31_3 ∧ Aside0 (spec_AgesFromTwo.j0 kq a2 x31_3 a0_0 a0_1 a1_0 a1_1 = some (r1, r2, r3, r4)) ∧ Aside0 (kq ≤ k) ∧ Aside0 (wc.heap[gb303]? = some (.cells #[.int .i64 a0_0, .int .i64 a0_1] 43 (0, 0))) ∧ Aside0 (wc.heap[gb304]? = some (.cells #[.int .i64 a1_0, .int .i64 a1_1] 43 (0, 0))) ∧ Aside0 (Below w.heap.size w wc))
 case first =>
  have H := HC4.out
  clear HC4
  replace H := Option.bind_eq_some_iff.mp H
  obtain ⟨t305, A70, H⟩ := H
  replace H : (if t305 = true then ((spec_raGood.f a1_0 a1_1).bind fun t306 => (if t306 = true then ((spec_l1In.f a2 (-120) 120).bind fun t307 => (if t307 = true then (spec_AgesFromTwo.j0 k a2 (a2 == 0) a0_0 a0_1 a1_0 a1_1) else (spec_AgesFromTwo.j0 k a2 true a0_0 a0_1 a1_0 a1_1))) else (spec_AgesFromTwo.j0 k a2 true a0_0 a0_1 a1_0 a1_1))) else (spec_AgesFromTwo.j0 k a2 true a0_0 a0_1 a1_0 a1_1)) = some (r1, r2, r3, r4) := H
  have A7 := Aside0.mk A70
  clear A70
  by_cases c8 : t305 = true
  ·subst c8
   have H1 : ((spec_raGood.f a1_0 a1_1).bind fun t306 => (if t306 = true then ((spec_l1In.f a2 (-120) 120).bind fun t307 => (if t307 = true then (spec_AgesFromTwo.j0 k a2 (a2 == 0) a0_0 a0_1 a1_0 a1_1) else (spec_AgesFromTwo.j0 k a2 true a0_0 a0_1 a1_0 a1_1))) else (spec_AgesFromTwo.j0 k a2 true a0_0 a0_1 a1_0 a1_1))) = some (r1, r2, r3, r4) := by rw [if_pos rfl] at H; exact H
   clear H
   have H := H1
   clear H1
   replace H := Option.bind_eq_some_iff.mp H
   obtain ⟨t306, A90, H⟩ := H
   replace H : (if t306 = true then ((spec_l1In.f a2 (-120) 120).bind fun t307 => (if t307 = true then (spec_AgesFromTwo.j0 k a2 (a2 == 0) a0_0 a0_1 a1_0 a1_1) else (spec_AgesFromTwo.j0 k a2 true a0_0 a0_1 a1_0 a1_1))) else (spec_AgesFromTwo.j0 k a2 true a0_0 a0_1 a1_0 a1_1)) = some (r1, r2, r3, r4) := H
   have A9 := Aside0.mk A90
   clear A90
   by_cases c10 : t306 = true
   ·subst c10
    have H1 : ((spec_l1In.f a2 (-120) 120).bind fun t307 => (if t307 = true then (spec_AgesFromTwo.j0 k a2 (a2 == 0) a0_0 a0_1 a1_0 a1_1) else (spec_AgesFromTwo.j0 k a2 true a0_0 a0_1 a1_0 a1_1))) = some (r1, r2, r3, r4) := by rw [if_pos rfl] at H; exact H
    clear H
    have H := H1
    clear H1
    replace H := Option.bind_eq_some_iff.mp H
    obtain ⟨t307, A110, H⟩ := H
    replace H : (if t307 = true then (spec_AgesFromTwo.j0 k a2 (a2 == 0) a0_0 a0_1 a1_0 a1_1) else (spec_AgesFromTwo.j0 k a2 true a0_0 a0_1 a1_0 a1_1)) = some (r1, r2, r3, r4) := H
    have A11 := Aside0.mk A110
    clear A110
    by_cases c12 : t307 = true
    ·subst c12
     have H1 : (spec_AgesFromTwo.j0 k a2 (a2 == 0) a0_0 a0_1 a1_0 a1_1) = some (r1, r2, r3, r4) := by rw [if_pos rfl] at H; exact H
     clear H
     have H := H1
     clear H1
     have H' := Aside0.mk H
     clear H
     have hnb13 := NB303_304.out
     have hnc13 := NB304_303.out
     have hcz14_0 : w6.cell? ⟨gb303, 0, none⟩ = some (.int .i64 a0_0) := (blk_cell BK303.out 0).trans rfl
     have hcz14_1 : w6.cell? ⟨gb303, 1, none⟩ = some (.int .i64 a0_1) := (blk_cell BK303.out 1).trans rfl
     have hfz14_0 := blk_frozen BK303.out 0
     have hfz14_1 := blk_frozen BK303.out 1
     go_wp2_with (first | ((with_reducible refine gate_callee (f := 74) rfl ?_); refine kE (some 16) Try.func74 #[.agg #[.int .i64 a0_0, .int .i64 a0_1]] rfl ?_; (with_reducible refine (spec_raGood.calls a0_0 a0_1 true _ A7.out).mono ?_); rintro e w15 ⟨rfl, hb⟩; refine ⟨_, rfl, ?_⟩; have n0_ := kB BK303 hb; have n1_ := kB BK304 hb; have n2_ := kH HB hb; replace BK303 := n0_; replace BK304 := n1_; replace HB := n2_; clear n0_ n1_ n2_; (try clear hb); have hcz16_0 : w15.cell? ⟨gb304, 0, none⟩ = some (.int .i64 a1_0) := (blk_cell BK304.out 0).trans rfl; have hcz16_1 : w15.cell? ⟨gb304, 1, none⟩ = some (.int .i64 a1_1) := (blk_cell BK304.out 1).trans rfl; have hfz16_0 := blk_frozen BK304.out 0; have hfz16_1 := blk_frozen BK304.out 1) | (go_at_call 74; (with_reducible refine (spec_raGood.calls a1_0 a1_1 true _ A9.out).mono ?_); rintro e w17 ⟨rfl, hb⟩; have n0_ := kB BK303 hb; have n1_ := kB BK304 hb; have n2_ := kH HB hb; replace BK303 := n0_; replace BK304 := n1_; replace HB := n2_; clear n0_ n1_ n2_; (try clear hb)) | (go_at_call 52; (with_reducible refine (spec_l1In.calls a2 (-120) 120 true _ A11.out).mono ?_); rintro e w' ⟨rfl, ⟨nd, rfl⟩⟩))
     go_meet
     case rel => exact ⟨_, ((a2 == 0)), (by first | rfl | (simp; done) | (simp [*]; done)), H', ⟨by first | omega | exact Nat.le_refl _⟩, kA, kA, kI⟩
    ·replace c12 := Bool.eq_false_iff.mpr c12
     subst c12
     have H1 : (spec_AgesFromTwo.j0 k a2 true a0_0 a0_1 a1_0 a1_1) = some (r1, r2, r3, r4) := by rw [if_neg (show ¬ (false = true) by decide)] at H; exact H
     clear H
     have H := H1
     clear H1
     have H' := Aside0.mk H
     clear H
     have hnb18 := NB303_304.out
     have hnc18 := NB304_303.out
     have hcz19_0 : w6.cell? ⟨gb303, 0, none⟩ = some (.int .i64 a0_0) := (blk_cell BK303.out 0).trans rfl
     have hcz19_1 : w6.cell? ⟨gb303, 1, none⟩ = some (.int .i64 a0_1) := (blk_cell BK303.out 1).trans rfl
     have hfz19_0 := blk_frozen BK303.out 0
     have hfz19_1 := blk_frozen BK303.out 1
     go_wp2_with (first | ((with_reducible refine gate_callee (f := 74) rfl ?_); refine kE (some 16) Try.func74 #[.agg #[.int .i64 a0_0, .int .i64 a0_1]] rfl ?_; (with_reducible refine (spec_raGood.calls a0_0 a0_1 true _ A7.out).mono ?_); rintro e w20 ⟨rfl, hb⟩; refine ⟨_, rfl, ?_⟩; have n0_ := kB BK303 hb; have n1_ := kB BK304 hb; have n2_ := kH HB hb; replace BK303 := n0_; replace BK304 := n1_; replace HB := n2_; clear n0_ n1_ n2_; (try clear hb); have hcz21_0 : w20.cell? ⟨gb304, 0, none⟩ = some (.int .i64 a1_0) := (blk_cell BK304.out 0).trans rfl; have hcz21_1 : w20.cell? ⟨gb304, 1, none⟩ = some (.int .i64 a1_1) := (blk_cell BK304.out 1).trans rfl; have hfz21_0 := blk_frozen BK304.out 0; have hfz21_1 := blk_frozen BK304.out 1) | (go_at_call 74; (with_reducible refine (spec_raGood.calls a1_0 a1_1 true _ A9.out).mono ?_); rintro e w22 ⟨rfl, hb⟩; have n0_ := kB BK303 hb; have n1_ := kB BK304 hb; have n2_ := kH HB hb; replace BK303 := n0_; replace BK304 := n1_; replace HB := n2_; clear n0_ n1_ n2_; (try clear hb)) | (go_at_call 52; (with_reducible refine (spec_l1In.calls a2 (-120) 120 false _ A11.out).mono ?_); rintro e w' ⟨rfl, ⟨nd, rfl⟩⟩))
     go_meet
     case rel => exact ⟨_, (true), (by first | rfl | (simp; done) | (simp [*]; done)), H', ⟨by first | omega | exact Nat.le_refl _⟩, kA, kA, kI⟩
   ·replace c10 := Bool.eq_false_iff.mpr c10
    subst c10
    have H1 : (spec_AgesFromTwo.j0 k a2 true a0_0 a0_1 a1_0 a1_1) = some (r1, r2, r3, r4) := by rw [if_neg (show ¬ (false = true) by decide)] at H; exact H
    clear H
    have H := H1
    clear H1
    have H' := Aside0.mk H
    clear H
    have hnb23 := NB303_304.out
    have hnc23 := NB304_303.out
    have hcz24_0 : w6.cell? ⟨gb303, 0, none⟩ = some (.int .i64 a0_0) := (blk_cell BK303.out 0).trans rfl
    have hcz24_1 : w6.cell? ⟨gb303, 1, none⟩ = some (.int .i64 a0_1) := (blk_cell BK303.out 1).trans rfl
    have hfz24_0 := blk_frozen BK303.out 0
    have hfz24_1 := blk_frozen BK303.out 1
    go_wp2_with (first | ((with_reducible refine gate_callee (f := 74) rfl ?_); refine kE (some 16) Try.func74 #[.agg #[.int .i64 a0_0, .int .i64 a0_1]] rfl ?_; (with_reducible refine (spec_raGood.calls a0_0 a0_1 true _ A7.out).mono ?_); rintro e w25 ⟨rfl, hb⟩; refine ⟨_, rfl, ?_⟩; have n0_ := kB BK303 hb; have n1_ := kB BK304 hb; have n2_ := kH HB hb; replace BK303 := n0_; replace BK304 := n1_; replace HB := n2_; clear n0_ n1_ n2_; (try clear hb); have hcz26_0 : w25.cell? ⟨gb304, 0, none⟩ = some (.int .i64 a1_0) := (blk_cell BK304.out 0).trans rfl; have hcz26_1 : w25.cell? ⟨gb304, 1, none⟩ = some (.int .i64 a1_1) := (blk_cell BK304.out 1).trans rfl; have hfz26_0 := blk_frozen BK304.out 0; have hfz26_1 := blk_frozen BK304.out 1) | (go_at_call 74; (with_reducible refine (spec_raGood.calls a1_0 a1_1 false _ A9.out).mono ?_); rintro e w27 ⟨rfl, hb⟩; have n0_ := kB BK303 hb; have n1_ := kB BK304 hb; have n2_ := kH HB hb; replace BK303 := n0_; replace BK304 := n1_; replace HB := n2_; clear n0_ n1_ n2_; (try clear hb)))
    go_meet
    case rel => exact ⟨_, (true), (by first | rfl | (simp; done) | (simp [*]; done)), H', ⟨by first | omega | exact Nat.le_refl _⟩, kA, kA, kI⟩
  ·replace c8 := Bool.eq_false_iff.mpr c8
   subst c8
   have H1 : (spec_AgesFromTwo.j0 k a2 true a0_0 a0_1 a1_0 a1_1) = some (r1, r2, r3, r4) := by rw [if_neg (show ¬ (false = true) by decide)] at H; exact H
   clear H
   have H := H1
   clear H1
   have H' := Aside0.mk H
   clear H
   have hnb28 := NB303_304.out
   have hnc28 := NB304_303.out
   have hcz29_0 : w6.cell? ⟨gb303, 0, none⟩ = some (.int .i64 a0_0) := (blk_cell BK303.out 0).trans rfl
   have hcz29_1 : w6.cell? ⟨gb303, 1, none⟩ = some (.int .i64 a0_1) := (blk_cell BK303.out 1).trans rfl
   have hfz29_0 := blk_frozen BK303.out 0
   have hfz29_1 := blk_frozen BK303.out 1
   go_wp2_with (first | ((with_reducible refine gate_callee (f := 74) rfl ?_); refine kE (some 16) Try.func74 #[.agg #[.int .i64 a0_0, .int .i64 a0_1]] rfl ?_; (with_reducible refine (spec_raGood.calls a0_0 a0_1 false _ A7.out).mono ?_); rintro e w30 ⟨rfl, hb⟩; refine ⟨_, rfl, ?_⟩; have n0_ := kB BK303 hb; have n1_ := kB BK304 hb; have n2_ := kH HB hb; replace BK303 := n0_; replace BK304 := n1_; replace HB := n2_; clear n0_ n1_ n2_; (try clear hb)))
   go_meet
   case rel => exact ⟨_, (true), (by first | rfl | (simp; done) | (simp [*]; done)), H', ⟨by first | omega | exact Nat.le_refl _⟩, kA, kA, kI⟩
 case rest =>
  clear HC4
  obtain ⟨kq, x31_3, rfl, HA, HJ3, BK303, BK304, HB⟩ := hcut
  cases kq with
  | zero => exact absurd HA.out (by simp [spec_AgesFromTwo.j0])
  | succ kj3 =>
   have H := HA.out
   clear HA
   simp only [spec_AgesFromTwo.j0] at H
   by_cases c31 : x31_3 = true
   ·subst c31
    have H1 : (some (0, 0, 0, false)) = some (r1, r2, r3, r4) := by rw [if_pos rfl] at H; exact H
    clear H
    have H := H1
    clear H1
    simp only [Option.some.injEq, Prod.mk.injEq] at H
    obtain ⟨rfl, rfl, rfl, rfl⟩ := H
    go_wp2
    refine bodyPost_ret (results_list (rs := [.tmp 6, .tmp 7, .tmp 8, .tmp 9]) rfl (by simp) (.tmp (.tmp (.tmp (.tmp .nil))))) rfl ?_
    exact ⟨by first | rfl | (simp [errW_none, errW_some] <;> rfl) | (simp [*, errW_none, errW_some] <;> rfl), kO⟩
   ·replace c31 := Bool.eq_false_iff.mpr c31
    subst c31
    have H1 : (if (wrap64 ((wrap64 (a1_1 * a0_0)) - (wrap64 (a1_0 * a0_1)))) < 0 then (spec_AgesFromTwo.j1 kj3 a2 (wrap64 (-(wrap64 ((wrap64 (a1_1 * a0_0)) - (wrap64 (a1_0 * a0_1)))))) (wrap64 (-(wrap64 (a2 * (wrap64 (a1_0 - a1_1)))))) a0_0 a0_1) else (spec_AgesFromTwo.j1 kj3 a2 (wrap64 ((wrap64 (a1_1 * a0_0)) - (wrap64 (a1_0 * a0_1)))) (wrap64 (a2 * (wrap64 (a1_0 - a1_1)))) a0_0 a0_1)) = some (r1, r2, r3, r4) := by rw [if_neg (show ¬ (false = true) by decide)] at H; exact H
    clear H
    have H := H1
    clear H1
    have HC32 := Aside0.mk H
    clear H
    have hnb33 := NB304_303.out
    have hnc33 := NB303_304.out
    have hcz34_0 : wc.cell? ⟨gb304, 0, none⟩ = some (.int .i64 a1_0) := (blk_cell BK304.out 0).trans rfl
    have hcz34_1 : wc.cell? ⟨gb304, 1, none⟩ = some (.int .i64 a1_1) := (blk_cell BK304.out 1).trans rfl
    have hfz34_0 := blk_frozen BK304.out 0
    have hfz34_1 := blk_frozen BK304.out 1
    have hcz35_0 : wc.cell? ⟨gb303, 0, none⟩ = some (.int .i64 a0_0) := (blk_cell BK303.out 0).trans rfl
    have hcz35_1 : wc.cell? ⟨gb303, 1, none⟩ = some (.int .i64 a0_1) := (blk_cell BK303.out 1).trans rfl
    have hfz35_0 := blk_frozen BK303.out 0
    have hfz35_1 := blk_frozen BK303.out 1
    go_upto_if 51 with (fail)
    go_cut [10, 11] from 51 to 51 (fun v10 v11 wc => ∃ (kq : Nat) (x10_31 : Int) (x11_31 : Int), v10 = .int .i64 x10_31 ∧ v11 = .int .i64 x11_31 ∧ Aside0 (spec_AgesFromTwo.j1 kq a2 x10_31 x11_31 a0_0 a0_1 = some (r1, r2, r3, r4)) ∧ Aside0 (kq ≤ kj3) ∧ Aside0 (wc.heap[gb303]? = some (.cells #[.int .i64 a0_0, .int .i64 a0_1] 43 (0, 0))) ∧ Aside0 (wc.heap[gb304]? = some (.cells #[.int .i64 a1_0, .int .i64 a1_1] 43 (0, 0))) ∧ Aside0 (Below w.heap.size w wc))
    case first =>
     have H := HC32.out
     clear HC32
     by_cases c36 : (wrap64 ((wrap64 (a1_1 * a0_0)) - (wrap64 (a1_0 * a0_1)))) < 0
     ·rw [if_pos c36] at H
      have c36b0 : decide ((wrap64 ((wrap64 (a1_1 * a0_0)) - (wrap64 (a1_0 * a0_1)))) < 0) = true := decide_eq_true c36
      clear c36
      (first | rw [c36b0] | (simp only [i64_w, i32_w]; rw [c36b0]) | skip)
      have H' := Aside0.mk H
      clear H
      go_wp2
      go_meet
      case rel => exact ⟨_, (wrap64 (-(wrap64 ((wrap64 (a1_1 * a0_0)) - (wrap64 (a1_0 * a0_1)))))), (wrap64 (-(wrap64 (a2 * (wrap64 (a1_0 - a1_1)))))), (by first | rfl | (simp; done) | (simp [*]; done)), (by first | rfl | (simp; done) | (simp [*]; done)), H', ⟨by have := HJ3.out; first | omega | exact Nat.le_refl _⟩, kA, kA, kI⟩
     ·rw [if_neg c36] at H
      have c36b0 : decide ((wrap64 ((wrap64 (a1_1 * a0_0)) - (wrap64 (a1_0 * a0_1)))) < 0) = false := decide_eq_false c36
      clear c36
      (first | rw [c36b0] | (simp only [i64_w, i32_w]; rw [c36b0]) | skip)
      have H' := Aside0.mk H
      clear H
      go_wp2
      go_meet
      case rel => exact ⟨_, (wrap64 ((wrap64 (a1_1 * a0_0)) - (wrap64 (a1_0 * a0_1)))), (wrap64 (a2 * (wrap64 (a1_0 - a1_1)))), (by first | rfl | (simp; done) | (simp [*]; done)), (by first | rfl | (simp; done) | (simp [*]; done)), H', ⟨by have := HJ3.out; first | omega | exact Nat.le_refl _⟩, kA, kA, kI⟩
    case rest =>
     clear HC32
     try clear c31
     try clear hcz34_0
     try clear hcz34_1
     try clear hcz35_0
     try clear hcz35_1
     try clear hfz34_0
     try clear hfz34_1
     try clear hfz35_0
     try clear hfz35_1
     obtain ⟨kq, x10_31, x11_31, rfl, rfl, HA, HJ31, BK303, BK304, HB⟩ := hcut
     cases kq with
     | zero => exact absurd HA.out (by simp [spec_AgesFromTwo.j1])
     | succ kj31 =>
      have H := HA.out
      clear HA
      simp only [spec_AgesFromTwo.j1] at H
      have HC37 := Aside0.mk H
      clear H
      go_upto_region 8 with (fail)
      go_cut [61] from 1 to 0 (fun v61 wc => ∃ (kq : Nat) (x61_36 : Bool), v61 = .bool x61_36 ∧ Aside0 (spec_AgesFromTwo.j2 kq a2 x10_31 x11_31 x61_36 a0_0 a0_1 = some (r1, r2, r3, r4)) ∧ Aside0 (kq ≤ kj31) ∧ Aside0 (wc.heap[gb303]? = some (.cells #[.int .i64 a0_0, .int .i64 a0_1] 43 (0, 0))) ∧ Aside0 (wc.heap[gb304]? = some (.cells #[.int .i64 a1_0, .int .i64 a1_1] 43 (0, 0))) ∧ Aside0 (Below w.heap.size w wc))
      case first =>
       have H := HC37.out
       clear HC37
       by_cases c38 : x10_31 = 0
       ·rw [if_pos c38] at H
        have c38b0 : (x10_31 == 0) = true := beq_iff_eq.mpr c38
        have c38b1 : (x10_31 != 0) = false := bne_eq_false_iff_eq.mpr c38
        clear c38
        (first | rw [c38b0] | (simp only [i64_w, i32_w]; rw [c38b0]) | skip)
        have H' := Aside0.mk H
        clear H
        go_wp2
        go_meet
        case rel => exact ⟨_, (true), (by first | rfl | (simp; done) | (simp [*]; done)), H', ⟨by have := HJ3.out; have := HJ31.out; first | omega | exact Nat.le_refl _⟩, kA, kA, kI⟩
       ·rw [if_neg c38] at H
        have c38b0 : (x10_31 == 0) = false := beq_eq_false_iff_ne.mpr c38
        have c38b1 : (x10_31 != 0) = true := bne_iff_ne.mpr c38
        (first | rw [c38b0] | (simp only [i64_w, i32_w]; rw [c38b0]) | skip)
        have H' := Aside0.mk H
        clear H
        go_wp2
        go_meet
        case rel => exact ⟨_, (decide (x11_31 ≤ 0)), (by first | rfl | (simp; done) | (simp [*]; done)), H', ⟨by have := HJ3.out; have := HJ31.out; first | omega | exact Nat.le_refl _⟩, kA, kA, kI⟩
      case rest =>
       clear HC37
       try clear c31
       try clear hcz34_0
       try clear hcz34_1
       try clear hcz35_0
       try clear hcz35_1
       try clear hfz34_0
       try clear hfz34_1
       try clear hfz35_0
       try clear hfz35_1
       obtain ⟨kq, x61_36, rfl, HA, HJ36, BK303, BK304, HB⟩ := hcut
       cases kq with
       | zero => exact absurd HA.out (by simp [spec_AgesFromTwo.j2])
       | succ kj36 =>
        have H := HA.out
        clear HA
        simp only [spec_AgesFromTwo.j2] at H
        by_cases c39 : x61_36 = true
        ·subst c39
         have H1 : (some (0, 0, 0, false)) = some (r1, r2, r3, r4) := by rw [if_pos rfl] at H; exact H
         clear H
         have H := H1
         clear H1
         simp only [Option.some.injEq, Prod.mk.injEq] at H
         obtain ⟨rfl, rfl, rfl, rfl⟩ := H
         go_wp2
         refine bodyPost_ret (results_list (rs := [.tmp 6, .tmp 7, .tmp 8, .tmp 9]) rfl (by simp) (.tmp (.tmp (.tmp (.tmp .nil))))) rfl ?_
         exact ⟨by first | rfl | (simp [errW_none, errW_some] <;> rfl) | (simp [*, errW_none, errW_some] <;> rfl), kO⟩
        ·replace c39 := Bool.eq_false_iff.mpr c39
         subst c39
         have H1 : ((spec_raThree.f kj36 (wrap64 (a0_0 * x11_31)) (wrap64 (a0_1 * x11_31)) x10_31).bind fun bt308 => (if (wrap64 (bt308.1 + (wrap64 (a2 * bt308.2.2)))) ≤ 0 then (some (0, 0, 0, false)) else (if (wrap64 (bt308.2.1 + (wrap64 (a2 * bt308.2.2)))) ≤ 0 then (some (0, 0, 0, false)) else (some (bt308.1, bt308.2.1, bt308.2.2, true))))) = some (r1, r2, r3, r4) := by rw [if_neg (show ¬ (false = true) by decide)] at H; exact H
         clear H
         have H := H1
         clear H1
         replace H := Option.bind_eq_some_iff.mp H
         obtain ⟨⟨t308, t309, t310⟩, A400, H⟩ := H
         replace H : (if (wrap64 (t308 + (wrap64 (a2 * t310)))) ≤ 0 then (some (0, 0, 0, false)) else (if (wrap64 (t309 + (wrap64 (a2 * t310)))) ≤ 0 then (some (0, 0, 0, false)) else (some (t308, t309, t310, true)))) = some (r1, r2, r3, r4) := H
         have A40 := Aside0.mk A400
         clear A400
         by_cases c41 : (wrap64 (t308 + (wrap64 (a2 * t310)))) ≤ 0
         ·rw [if_pos c41] at H
          have c41b0 : decide ((wrap64 (t308 + (wrap64 (a2 * t310)))) ≤ 0) = true := decide_eq_true c41
          clear c41
          simp only [Option.some.injEq, Prod.mk.injEq] at H
          obtain ⟨rfl, rfl, rfl, rfl⟩ := H
          have hnb42 := NB303_304.out
          have hnc42 := NB304_303.out
          have hcz43_0 : wc.cell? ⟨gb303, 0, none⟩ = some (.int .i64 a0_0) := (blk_cell BK303.out 0).trans rfl
          have hcz43_1 : wc.cell? ⟨gb303, 1, none⟩ = some (.int .i64 a0_1) := (blk_cell BK303.out 1).trans rfl
          have hfz43_0 := blk_frozen BK303.out 0
          have hfz43_1 := blk_frozen BK303.out 1
          go_wp2_with (first | ((with_reducible refine gate_callee (f := 81) rfl ?_); refine kE (some 72) Try.func81 #[.int .i64 (wrap64 (a0_0 * x11_31)), .int .i64 (wrap64 (a0_1 * x11_31)), .int .i64 x10_31] rfl ?_; (with_reducible refine (spec_raThree.calls kj36 (wrap64 (a0_0 * x11_31)) (wrap64 (a0_1 * x11_31)) x10_31 t308 t309 t310 _ A40.out).mono ?_); rintro e w' ⟨rfl, ⟨nd, rfl⟩⟩; refine ⟨_, rfl, ?_⟩))
          refine bodyPost_ret (results_list (rs := [.tmp 6, .tmp 7, .tmp 8, .tmp 9]) rfl (by simp) (.tmp (.tmp (.tmp (.tmp .nil))))) rfl ?_
          exact ⟨by first | rfl | (simp [errW_none, errW_some] <;> rfl) | (simp [*, errW_none, errW_some] <;> rfl), kO⟩
         ·rw [if_neg c41] at H
          have c41b0 : decide ((wrap64 (t308 + (wrap64 (a2 * t310)))) ≤ 0) = false := decide_eq_false c41
          clear c41
          by_cases c44 : (wrap64 (t309 + (wrap64 (a2 * t310)))) ≤ 0
          ·rw [if_pos c44] at H
           have c44b0 : decide ((wrap64 (t309 + (wrap64 (a2 * t310)))) ≤ 0) = true := decide_eq_true c44
           clear c44
           simp only [Option.some.injEq, Prod.mk.injEq] at H
           obtain ⟨rfl, rfl, rfl, rfl⟩ := H
           have hnb45 := NB303_304.out
           have hnc45 := NB304_303.out
           have hcz46_0 : wc.cell? ⟨gb303, 0, none⟩ = some (.int .i64 a0_0) := (blk_cell BK303.out 0).trans rfl
           have hcz46_1 : wc.cell? ⟨gb303, 1, none⟩ = some (.int .i64 a0_1) := (blk_cell BK303.out 1).trans rfl
           have hfz46_0 := blk_frozen BK303.out 0
           have hfz46_1 := blk_frozen BK303.out 1
           go_wp2_with (first | ((with_reducible refine gate_callee (f := 81) rfl ?_); refine kE (some 72) Try.func81 #[.int .i64 (wrap64 (a0_0 * x11_31)), .int .i64 (wrap64 (a0_1 * x11_31)), .int .i64 x10_31] rfl ?_; (with_reducible refine (spec_raThree.calls kj36 (wrap64 (a0_0 * x11_31)) (wrap64 (a0_1 * x11_31)) x10_31 t308 t309 t310 _ A40.out).mono ?_); rintro e w' ⟨rfl, ⟨nd, rfl⟩⟩; refine ⟨_, rfl, ?_⟩))
           refine bodyPost_ret (results_list (rs := [.tmp 6, .tmp 7, .tmp 8, .tmp 9]) rfl (by simp) (.tmp (.tmp (.tmp (.tmp .nil))))) rfl ?_
           exact ⟨by first | rfl | (simp [errW_none, errW_some] <;> rfl) | (simp [*, errW_none, errW_some] <;> rfl), kO⟩
          ·rw [if_neg c44] at H
           have c44b0 : decide ((wrap64 (t309 + (wrap64 (a2 * t310)))) ≤ 0) = false := decide_eq_false c44
           clear c44
           simp only [Option.some.injEq, Prod.mk.injEq] at H
           obtain ⟨rfl, rfl, rfl, rfl⟩ := H
           have hnb47 := NB303_304.out
           have hnc47 := NB304_303.out
           have hcz48_0 : wc.cell? ⟨gb303, 0, none⟩ = some (.int .i64 a0_0) := (blk_cell BK303.out 0).trans rfl
           have hcz48_1 : wc.cell? ⟨gb303, 1, none⟩ = some (.int .i64 a0_1) := (blk_cell BK303.out 1).trans rfl
           have hfz48_0 := blk_frozen BK303.out 0
           have hfz48_1 := blk_frozen BK303.out 1
           go_wp2_with (first | ((with_reducible refine gate_callee (f := 81) rfl ?_); refine kE (some 72) Try.func81 #[.int .i64 (wrap64 (a0_0 * x11_31)), .int .i64 (wrap64 (a0_1 * x11_31)), .int .i64 x10_31] rfl ?_; (with_reducible refine (spec_raThree.calls kj36 (wrap64 (a0_0 * x11_31)) (wrap64 (a0_1 * x11_31)) x10_31 t308 t309 t310 _ A40.out).mono ?_); rintro e w' ⟨rfl, ⟨nd, rfl⟩⟩; refine ⟨_, rfl, ?_⟩))
           refine bodyPost_ret (results_list (rs := [.tmp 6, .tmp 7, .tmp 8, .tmp 9]) rfl (by simp) (.tmp (.tmp (.tmp (.tmp .nil))))) rfl ?_
           exact ⟨by first | rfl | (simp [errW_none, errW_some] <;> rfl) | (simp [*, errW_none, errW_some] <;> rfl), kO⟩

end Go.Proofs.Ytnbolemfldmohaa.P
