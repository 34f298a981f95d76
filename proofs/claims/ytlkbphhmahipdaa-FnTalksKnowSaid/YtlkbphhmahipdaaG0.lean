/- Calls of the functions of the given program return what the plain Lean functions of the same names return; and a row of a law out of its pure statement. Written by a program of this session out of the translation; Lean checks it. No condition. -/
import Derived.Test.YtlkbphhmahipdaaPk0
import Derived.Test.YtlkbphhmahipdaaTk
import Derived.Test.YtlkbphhmahipdaaMp
import Derived.Test.YtlkbphhmahipdaaHlp
import Derived.Shelf.Abstract
import Derived.Lib.SliceRun
namespace Go.Proofs.Ytlkbphhmahipdaa.P
open Go.RowKit Go.Proofs.YtlkbphhmahipdaaW.PrintWords Go.Proofs.YtlkbphhmahipdaaW.PrintLast Go.Proofs.YtlkbphhmahipdaaW.PrintMore
attribute [local go_sem] max2_int min2_int max_two min_two max_three min_three max_four min_four   -- for this text's walks alone
set_option linter.unusedVariables false
set_option linter.unusedSimpArgs false

/-! ### spec_l1In: function 105 -/
def spec_l1In.f (a0 : Int) (a1 : Int) (a2 : Int) : Option (Bool) := if a0 ≥ a1 then (some (decide (a0 ≤ a2))) else (some false)
set_option maxHeartbeats 8000000 in
set_option maxRecDepth 100000 in
theorem spec_l1In.calls (a0 : Int) (a1 : Int) (a2 : Int) (r : Bool) (w : World) (h : spec_l1In.f a0 a1 a2 = some r) :
  Calls Try.prog 105 #[.int .i64 a0, .int .i64 a1, .int .i64 a2] w fun e w' => e = .returned (.bool r) ∧ Drawn0 w w' := by
 have H : (if a0 ≥ a1 then (some (decide (a0 ≤ a2))) else (some false)) = some r := h
 clear h
 by_cases c4 : a0 ≥ a1
 ·rw [if_pos c4] at H
  have c4b0 : decide (a1 ≤ a0) = true := decide_eq_true c4
  clear c4
  obtain rfl := Option.some.inj H
  go_enter Try.func105, Try.ntmps105
  go_wp2
  go_ret
  exact ⟨by first | rfl | (simp; done) | (simp [*]; done), by repeat (first | exact Drawn0.refl _ | apply Drawn0.step)⟩
 ·rw [if_neg c4] at H
  have c4b0 : decide (a1 ≤ a0) = false := decide_eq_false c4
  clear c4
  obtain rfl := Option.some.inj H
  go_enter Try.func105, Try.ntmps105
  go_wp2
  go_ret
  exact ⟨by first | rfl | (simp; done) | (simp [*]; done), by repeat (first | exact Drawn0.refl _ | apply Drawn0.step)⟩

/-! ### spec_taLimit: function 93 -/
def spec_taLimit.f (a0 : Int) : Option (Bool) := (spec_l1In.f a0 2 40).bind fun t101 => (some t101)
set_option maxHeartbeats 8000000 in
set_option maxRecDepth 100000 in
theorem spec_taLimit.calls (a0 : Int) (r : Bool) (w : World) (h : spec_taLimit.f a0 = some r) :
  Calls Try.prog 93 #[.int .i64 a0] w fun e w' => e = .returned (.bool r) ∧ Drawn0 w w' := by
 have H : ((spec_l1In.f a0 2 40).bind fun t101 => (some t101)) = some r := h
 clear h
 replace H := Option.bind_eq_some_iff.mp H
 obtain ⟨t101, A20, H⟩ := H
 replace H : (some t101) = some r := H
 have A2 := Aside0.mk A20
 clear A20
 obtain rfl := Option.some.inj H
 go_enter Try.func93, Try.ntmps93
 go_wp2_with (first | ((with_reducible refine gate_callee (f := 105) rfl ?_); refine goesL_ (some 4) rfl rfl Try.func105 (by kernel_rfl) rfl #[.int .i64 a0, .int .i64 2, .int .i64 40] rfl (by (try simp only [List.map_toArray, List.map_cons, List.map_nil]); first | done | rfl | (simp only [List.length_drop, List.length_take]; rfl)) ?_; (with_reducible refine (spec_l1In.calls a0 2 40 t101 _ A2.out).mono ?_); rintro e w' ⟨rfl, ⟨nd, rfl⟩⟩; refine ⟨_, rfl, ?_⟩))
 go_ret
 exact ⟨by first | rfl | (simp; done) | (simp [*]; done), by repeat (first | exact Drawn0.refl _ | apply Drawn0.step)⟩

/-! ### spec_taPair: function 69 -/
def spec_taPair.f (a0 : Int) (a1 : Int) (a2 : Int) : Option (Bool) := (spec_taLimit.f a0).bind fun t102 => (if t102 = true then ((spec_l1In.f a2 1 a0).bind fun t103 => (if t103 = true then ((spec_l1In.f a1 1 a2).bind fun t104 => (some t104)) else (some false))) else (some false))
set_option maxHeartbeats 8000000 in
set_option maxRecDepth 100000 in
theorem spec_taPair.calls (a0 : Int) (a1 : Int) (a2 : Int) (r : Bool) (w : World) (h : spec_taPair.f a0 a1 a2 = some r) :
  Calls Try.prog 69 #[.int .i64 a0, .int .i64 a1, .int .i64 a2] w fun e w' => e = .returned (.bool r) ∧ Drawn0 w w' := by
 have H : ((spec_taLimit.f a0).bind fun t102 => (if t102 = true then ((spec_l1In.f a2 1 a0).bind fun t103 => (if t103 = true then ((spec_l1In.f a1 1 a2).bind fun t104 => (some t104)) else (some false))) else (some false))) = some r := h
 clear h
 replace H := Option.bind_eq_some_iff.mp H
 obtain ⟨t102, A40, H⟩ := H
 replace H : (if t102 = true then ((spec_l1In.f a2 1 a0).bind fun t103 => (if t103 = true then ((spec_l1In.f a1 1 a2).bind fun t104 => (some t104)) else (some false))) else (some false)) = some r := H
 have A4 := Aside0.mk A40
 clear A40
 by_cases c5 : t102 = true
 ·subst c5
  have H1 : ((spec_l1In.f a2 1 a0).bind fun t103 => (if t103 = true then ((spec_l1In.f a1 1 a2).bind fun t104 => (some t104)) else (some false))) = some r := by rw [if_pos rfl] at H; exact H
  clear H
  have H := H1
  clear H1
  replace H := Option.bind_eq_some_iff.mp H
  obtain ⟨t103, A60, H⟩ := H
  replace H : (if t103 = true then ((spec_l1In.f a1 1 a2).bind fun t104 => (some t104)) else (some false)) = some r := H
  have A6 := Aside0.mk A60
  clear A60
  by_cases c7 : t103 = true
  ·subst c7
   have H1 : ((spec_l1In.f a1 1 a2).bind fun t104 => (some t104)) = some r := by rw [if_pos rfl] at H; exact H
   clear H
   have H := H1
   clear H1
   replace H := Option.bind_eq_some_iff.mp H
   obtain ⟨t104, A80, H⟩ := H
   replace H : (some t104) = some r := H
   have A8 := Aside0.mk A80
   clear A80
   obtain rfl := Option.some.inj H
   go_enter Try.func69, Try.ntmps69
   go_wp2_with (first | ((with_reducible refine gate_callee (f := 93) rfl ?_); refine goesL_ (some 8) rfl rfl Try.func93 (by kernel_rfl) rfl #[.int .i64 a0] rfl (by (try simp only [List.map_toArray, List.map_cons, List.map_nil]); first | done | rfl | (simp only [List.length_drop, List.length_take]; rfl)) ?_; (with_reducible refine (spec_taLimit.calls a0 true _ A4.out).mono ?_); rintro e w' ⟨rfl, ⟨nd, rfl⟩⟩; refine ⟨_, rfl, ?_⟩) | (go_at_call 105; (with_reducible refine (spec_l1In.calls a2 1 a0 true _ A6.out).mono ?_); rintro e w' ⟨rfl, ⟨nd, rfl⟩⟩) | (go_at_call 105; (with_reducible refine (spec_l1In.calls a1 1 a2 t104 _ A8.out).mono ?_); rintro e w' ⟨rfl, ⟨nd, rfl⟩⟩))
   go_ret
   exact ⟨by first | rfl | (simp; done) | (simp [*]; done), by repeat (first | exact Drawn0.refl _ | apply Drawn0.step)⟩
  ·replace c7 := Bool.eq_false_iff.mpr c7
   subst c7
   have H1 : (some false) = some r := by rw [if_neg (show ¬ (false = true) by decide)] at H; exact H
   clear H
   have H := H1
   clear H1
   obtain rfl := Option.some.inj H
   go_enter Try.func69, Try.ntmps69
   go_wp2_with (first | ((with_reducible refine gate_callee (f := 93) rfl ?_); refine goesL_ (some 8) rfl rfl Try.func93 (by kernel_rfl) rfl #[.int .i64 a0] rfl (by (try simp only [List.map_toArray, List.map_cons, List.map_nil]); first | done | rfl | (simp only [List.length_drop, List.length_take]; rfl)) ?_; (with_reducible refine (spec_taLimit.calls a0 true _ A4.out).mono ?_); rintro e w' ⟨rfl, ⟨nd, rfl⟩⟩; refine ⟨_, rfl, ?_⟩) | (go_at_call 105; (with_reducible refine (spec_l1In.calls a2 1 a0 false _ A6.out).mono ?_); rintro e w' ⟨rfl, ⟨nd, rfl⟩⟩))
   go_ret
   exact ⟨by first | rfl | (simp; done) | (simp [*]; done), by repeat (first | exact Drawn0.refl _ | apply Drawn0.step)⟩
 ·replace c5 := Bool.eq_false_iff.mpr c5
  subst c5
  have H1 : (some false) = some r := by rw [if_neg (show ¬ (false = true) by decide)] at H; exact H
  clear H
  have H := H1
  clear H1
  obtain rfl := Option.some.inj H
  go_enter Try.func69, Try.ntmps69
  go_wp2_with (first | ((with_reducible refine gate_callee (f := 93) rfl ?_); refine goesL_ (some 8) rfl rfl Try.func93 (by kernel_rfl) rfl #[.int .i64 a0] rfl (by (try simp only [List.map_toArray, List.map_cons, List.map_nil]); first | done | rfl | (simp only [List.length_drop, List.length_take]; rfl)) ?_; (with_reducible refine (spec_taLimit.calls a0 false _ A4.out).mono ?_); rintro e w' ⟨rfl, ⟨nd, rfl⟩⟩; refine ⟨_, rfl, ?_⟩))
  go_ret
  exact ⟨by first | rfl | (simp; done) | (simp [*]; done), by repeat (first | exact Drawn0.refl _ | apply Drawn0.step)⟩

/-! ### spec_taWho: function 90 -/
def spec_taWho.f (a0 : ByteArray) : Option (Bool) := if a0.toList = ([115] : List UInt8) then (some true) else (some (a0.toList == ([112] : List UInt8)))
set_option maxHeartbeats 8000000 in
set_option maxRecDepth 100000 in
theorem spec_taWho.calls (a0 : ByteArray) (r : Bool) (w : World) (h : spec_taWho.f a0 = some r) :
  Calls Try.prog 90 #[.string a0] w fun e w' => e = .returned (.bool r) ∧ Drawn0 w w' := by
 have H : (if a0.toList = ([115] : List UInt8) then (some true) else (some (a0.toList == ([112] : List UInt8)))) = some r := h
 clear h
 by_cases c2 : a0.toList = ([115] : List UInt8)
 ·rw [if_pos c2] at H
  have c2b0 : (a0.toList == ([115] : List UInt8)) = true := beq_iff_eq.mpr c2
  have c2b1 : (a0.toList != ([115] : List UInt8)) = false := bne_eq_false_iff_eq.mpr c2
  clear c2
  obtain rfl := Option.some.inj H
  go_enter Try.func90, Try.ntmps90
  go_wp2
  go_ret
  exact ⟨by first | rfl | (simp; done) | (simp [*]; done), by repeat (first | exact Drawn0.refl _ | apply Drawn0.step)⟩
 ·rw [if_neg c2] at H
  have c2b0 : (a0.toList == ([115] : List UInt8)) = false := beq_eq_false_iff_ne.mpr c2
  have c2b1 : (a0.toList != ([115] : List UInt8)) = true := bne_iff_ne.mpr c2
  obtain rfl := Option.some.inj H
  go_enter Try.func90, Try.ntmps90
  go_wp2
  go_ret
  exact ⟨by first | rfl | (simp; done) | (simp [*]; done), by repeat (first | exact Drawn0.refl _ | apply Drawn0.step)⟩

/-! ### spec_taTalk: function 70 -/
mutual
def spec_taTalk.j0 : Nat → ByteArray → Bool → Option (Bool)
 | 0, _, _ => none
 | k + 1, x0, x12 => if x12 = true then (some false) else (spec_taTalk.l0 k x0 0)
def spec_taTalk.l0 : Nat → ByteArray → Int → Option (Bool)
 | 0, _, _ => none
 | k + 1, x0, x3 => if x3 < (x0.size : Int) then (if 0 ≤ x3 then (if x3 ≤ (wrap64 (x3 + 1)) then (if (wrap64 (x3 + 1)) ≤ (x0.size : Int) then ((spec_taWho.f (x0.extract (x3 : Int).toNat ((wrap64 (x3 + 1)) : Int).toNat)).bind fun t105 => (if t105 = true then (if 0 ≤ (wrap64 (x3 + 1)) then (if (wrap64 (x3 + 1)) < (x0.size : Int) then (if (bt x0 (wrap64 (x3 + 1))) = 45 then (spec_taTalk.l0 k x0 (wrap64 (x3 + 2))) else (if (bt x0 (wrap64 (x3 + 1))) = 43 then (spec_taTalk.l0 k x0 (wrap64 (x3 + 2))) else (if (bt x0 (wrap64 (x3 + 1))) = 33 then (spec_taTalk.l0 k x0 (wrap64 (x3 + 2))) else (some false)))) else (none)) else (none)) else (some false))) else (none)) else (none)) else (none)) else (some true)
end
def spec_taTalk.f (k : Nat) (a0 : ByteArray) : Option (Bool) := if ((a0.size : Int) % 2) = 1 then (spec_taTalk.j0 k a0 true) else (spec_taTalk.j0 k a0 (decide ((a0.size : Int) > 24)))
set_option maxHeartbeats 8000000 in
set_option maxRecDepth 100000 in
theorem spec_taTalk.calls (k : Nat) (a0 : ByteArray) (r : Bool) (w : World) (h : spec_taTalk.f k a0 = some r) :
  Calls Try.prog 70 #[.string a0] w fun e w' => e = .returned (.bool r) ∧ Drawn0 w w' := by
 have H : (if ((a0.size : Int) % 2) = 1 then (spec_taTalk.j0 k a0 true) else (spec_taTalk.j0 k a0 (decide ((a0.size : Int) > 24)))) = some r := h
 clear h
 have HC2 := Aside0.mk H
 clear H
 go_enter Try.func70, Try.ntmps70
 go_upto_region 1 with (fail)
 go_cut [12] (fun v12 wc => ∃ (kq : Nat) (x12_1 : Bool), v12 = .bool x12_1 ∧ Aside0 (spec_taTalk.j0 kq a0 x12_1 = some r) ∧ Aside0 (kq ≤ k) ∧ Drawn0 w wc)
 case first =>
  have H := HC2.out
  clear HC2
  by_cases c3 : ((a0.size : Int) % 2) = 1
  ·rw [if_pos c3] at H
   have c3b0 : (((a0.size : Int) % 2) == 1) = true := beq_iff_eq.mpr c3
   have c3b1 : (((a0.size : Int) % 2) != 1) = false := bne_eq_false_iff_eq.mpr c3
   clear c3
   (first | rw [c3b0] | (simp only [i64_w, i32_w]; rw [c3b0]) | skip)
   have H' := Aside0.mk H
   clear H
   go_wp2
   go_meet
   case rel => exact ⟨_, (true), (by first | rfl | (simp; done) | (simp [*]; done)), H', ⟨by first | omega | exact Nat.le_refl _⟩, by repeat (first | exact Drawn0.refl _ | apply Drawn0.step)⟩
  ·rw [if_neg c3] at H
   have c3b0 : (((a0.size : Int) % 2) == 1) = false := beq_eq_false_iff_ne.mpr c3
   have c3b1 : (((a0.size : Int) % 2) != 1) = true := bne_iff_ne.mpr c3
   (first | rw [c3b0] | (simp only [i64_w, i32_w]; rw [c3b0]) | skip)
   have H' := Aside0.mk H
   clear H
   go_wp2
   go_meet
   case rel => exact ⟨_, (decide ((a0.size : Int) > 24)), (by first | rfl | (simp; done) | (simp [*]; done)), H', ⟨by first | omega | exact Nat.le_refl _⟩, by repeat (first | exact Drawn0.refl _ | apply Drawn0.step)⟩
 case rest =>
  clear HC2
  try clear p2
  try clear c3
  try clear c3b0
  try clear c3b1
  obtain ⟨kq, x12_1, rfl, HA, HJ1, ⟨mc1, rfl⟩⟩ := hcut
  cases kq with
  | zero => exact absurd HA.out (by simp [spec_taTalk.j0])
  | succ kj1 =>
   have H := HA.out
   clear HA
   simp only [spec_taTalk.j0] at H
   by_cases c4 : x12_1 = true
   ·subst c4
    have H1 : (some false) = some r := by rw [if_pos rfl] at H; exact H
    clear H
    have H := H1
    clear H1
    obtain rfl := Option.some.inj H
    go_wp2
    go_ret
    exact ⟨by first | rfl | (simp; done) | (simp [*]; done), by repeat (first | exact Drawn0.refl _ | apply Drawn0.step)⟩
   ·replace c4 := Bool.eq_false_iff.mpr c4
    subst c4
    have H1 : (spec_taTalk.l0 kj1 a0 0) = some r := by rw [if_neg (show ¬ (false = true) by decide)] at H; exact H
    clear H
    have H := H1
    clear H1
    have H' := Aside0.mk H
    clear H
    go_wp2
    go_loopg [3] kj1 (fun kq v3 w' => ∃ (x3_2 : Int), v3 = .int .i64 x3_2 ∧ Aside0 (spec_taTalk.l0 kq a0 x3_2 = some r) ∧ Aside0 (kq ≤ kj1) ∧ Drawn0 w w')
    case atStart => exact ⟨(0), (by first | rfl | (simp; done) | (simp [*]; done)), H', ⟨Nat.le_refl _⟩, by repeat (first | exact Drawn0.refl _ | apply Drawn0.step)⟩
    case round =>
     clear H'
     try clear c1
     try clear p2
     try clear c3
     try clear c3b0
     try clear c3b1
     try clear c4
     try clear p2
     obtain ⟨x3_2, rfl, HA, HK2, ⟨m2, rfl⟩⟩ := hrel
     cases gk with
     | zero => exact absurd HA.out (by simp [spec_taTalk.l0])
     | succ k2 =>
      have H := HA.out
      clear HA
      simp only [spec_taTalk.l0] at H
      by_cases c5 : x3_2 < (a0.size : Int)
      ·rw [if_pos c5] at H
       have c5b0 : decide (x3_2 < (a0.size : Int)) = true := decide_eq_true c5
       clear c5
       by_cases c6 : 0 ≤ x3_2
       ·rw [if_pos c6] at H
        have c6b0 := eq_true c6
        have c6b1 : decide (0 ≤ x3_2) = true := decide_eq_true c6
        clear c6
        by_cases c7 : x3_2 ≤ (wrap64 (x3_2 + 1))
        ·rw [if_pos c7] at H
         have c7b0 := eq_true c7
         have c7b1 : decide (x3_2 ≤ (wrap64 (x3_2 + 1))) = true := decide_eq_true c7
         by_cases c8 : (wrap64 (x3_2 + 1)) ≤ (a0.size : Int)
         ·rw [if_pos c8] at H
          have c8b0 := eq_true c8
          have c8b1 : decide ((wrap64 (x3_2 + 1)) ≤ (a0.size : Int)) = true := decide_eq_true c8
          replace H := Option.bind_eq_some_iff.mp H
          obtain ⟨t105, A90, H⟩ := H
          replace H : (if t105 = true then (if 0 ≤ (wrap64 (x3_2 + 1)) then (if (wrap64 (x3_2 + 1)) < (a0.size : Int) then (if (bt a0 (wrap64 (x3_2 + 1))) = 45 then (spec_taTalk.l0 k2 a0 (wrap64 (x3_2 + 2))) else (if (bt a0 (wrap64 (x3_2 + 1))) = 43 then (spec_taTalk.l0 k2 a0 (wrap64 (x3_2 + 2))) else (if (bt a0 (wrap64 (x3_2 + 1))) = 33 then (spec_taTalk.l0 k2 a0 (wrap64 (x3_2 + 2))) else (some false)))) else (none)) else (none)) else (some false)) = some r := H
          have A9 := Aside0.mk A90
          clear A90
          by_cases c10 : t105 = true
          ·subst c10
           have H1 : (if 0 ≤ (wrap64 (x3_2 + 1)) then (if (wrap64 (x3_2 + 1)) < (a0.size : Int) then (if (bt a0 (wrap64 (x3_2 + 1))) = 45 then (spec_taTalk.l0 k2 a0 (wrap64 (x3_2 + 2))) else (if (bt a0 (wrap64 (x3_2 + 1))) = 43 then (spec_taTalk.l0 k2 a0 (wrap64 (x3_2 + 2))) else (if (bt a0 (wrap64 (x3_2 + 1))) = 33 then (spec_taTalk.l0 k2 a0 (wrap64 (x3_2 + 2))) else (some false)))) else (none)) else (none)) = some r := by rw [if_pos rfl] at H; exact H
           clear H
           have H := H1
           clear H1
           obtain ⟨ji11, hji11⟩ : ∃ j_ : Int, (wrap64 (x3_2 + 1)) = j_ := ⟨_, rfl⟩
           replace H : (if 0 ≤ (ji11) then (if (ji11) < (a0.size : Int) then (if (bt a0 (ji11)) = 45 then (spec_taTalk.l0 k2 a0 (wrap64 (x3_2 + 2))) else (if (bt a0 (ji11)) = 43 then (spec_taTalk.l0 k2 a0 (wrap64 (x3_2 + 2))) else (if (bt a0 (ji11)) = 33 then (spec_taTalk.l0 k2 a0 (wrap64 (x3_2 + 2))) else (some false)))) else (none)) else (none)) = some r := by first | (rw [hji11] at H; exact H) | (simp only [hji11] at H ⊢; exact H)
           (try rw [hji11] at c7b0)
           (try rw [hji11] at c7b1)
           (try rw [hji11] at c7)
           (try rw [hji11] at c8b0)
           (try rw [hji11] at c8b1)
           (try rw [hji11] at c8)
           (try rw [hji11] at A9)
           have hji11w : (IntKind.i64.wrap (x3_2 + 1)) = ji11 := (i64_w _).trans hji11
           by_cases c12 : 0 ≤ (ji11)
           ·rw [if_pos c12] at H
            have c12b0 : decide (0 ≤ (ji11)) = true := decide_eq_true c12
            clear c12
            by_cases c13 : (ji11) < (a0.size : Int)
            ·rw [if_pos c13] at H
             have c13b0 : decide ((ji11) < (a0.size : Int)) = true := decide_eq_true c13
             clear c13
             by_cases c15 : (bt a0 (ji11)) = 45
             ·rw [if_pos c15] at H
              have c15b0 : ((bt a0 (ji11)) == 45) = true := beq_iff_eq.mpr c15
              have c15b1 : ((bt a0 (ji11)) != 45) = false := bne_eq_false_iff_eq.mpr c15
              clear c15
              have H' := Aside0.mk H
              clear H
              go_wp2_with (first | ((with_reducible refine gate_callee (f := 90) rfl ?_); refine goesL_ (some 24) rfl rfl Try.func90 (by kernel_rfl) rfl #[.string (a0.extract (x3_2 : Int).toNat ((ji11) : Int).toNat)] rfl (by (try simp only [List.map_toArray, List.map_cons, List.map_nil]); first | done | (simp only [hji11]; rfl) | rfl | (simp only [List.length_drop, List.length_take]; rfl)) ?_; (with_reducible refine (spec_taWho.calls (a0.extract (x3_2 : Int).toNat ((ji11) : Int).toNat) true _ A9.out).mono ?_); rintro e w' ⟨rfl, ⟨nd, rfl⟩⟩; refine ⟨_, rfl, ?_⟩; have p14 : 0 ≤ ((ji11) : Int) := of_decide_eq_true (by first | (with_reducible assumption) | assumption); have q14 : (ji11) < (a0.size : Int) := of_decide_eq_true (by first | (with_reducible assumption) | assumption); have hx14 := bt_at a0 (ji11); replace p14 := eq_true p14; replace q14 := eq_true q14))
              go_roundg k2
              case measure => have := HJ1.out; have := HK2.out; omega
              case rel => exact ⟨(wrap64 (x3_2 + 2)), (by first | rfl | (simp; done) | (simp [*]; done)), H', ⟨by have := HJ1.out; have := HK2.out; omega⟩, by repeat (first | exact Drawn0.refl _ | apply Drawn0.step)⟩
             ·rw [if_neg c15] at H
              have c15b0 : ((bt a0 (ji11)) == 45) = false := beq_eq_false_iff_ne.mpr c15
              have c15b1 : ((bt a0 (ji11)) != 45) = true := bne_iff_ne.mpr c15
              by_cases c17 : (bt a0 (ji11)) = 43
              ·rw [if_pos c17] at H
               have c17b0 : ((bt a0 (ji11)) == 43) = true := beq_iff_eq.mpr c17
               have c17b1 : ((bt a0 (ji11)) != 43) = false := bne_eq_false_iff_eq.mpr c17
               clear c17
               have H' := Aside0.mk H
               clear H
               go_wp2_with (first | ((with_reducible refine gate_callee (f := 90) rfl ?_); refine goesL_ (some 24) rfl rfl Try.func90 (by kernel_rfl) rfl #[.string (a0.extract (x3_2 : Int).toNat ((ji11) : Int).toNat)] rfl (by (try simp only [List.map_toArray, List.map_cons, List.map_nil]); first | done | (simp only [hji11]; rfl) | rfl | (simp only [List.length_drop, List.length_take]; rfl)) ?_; (with_reducible refine (spec_taWho.calls (a0.extract (x3_2 : Int).toNat ((ji11) : Int).toNat) true _ A9.out).mono ?_); rintro e w' ⟨rfl, ⟨nd, rfl⟩⟩; refine ⟨_, rfl, ?_⟩; have p14 : 0 ≤ ((ji11) : Int) := of_decide_eq_true (by first | (with_reducible assumption) | assumption); have q14 : (ji11) < (a0.size : Int) := of_decide_eq_true (by first | (with_reducible assumption) | assumption); have hx14 := bt_at a0 (ji11); replace p14 := eq_true p14; replace q14 := eq_true q14; have p16 : 0 ≤ ((ji11) : Int) := of_decide_eq_true (by first | (with_reducible assumption) | assumption); have q16 : (ji11) < (a0.size : Int) := of_decide_eq_true (by first | (with_reducible assumption) | assumption); have hx16 := bt_at a0 (ji11); replace p16 := eq_true p16; replace q16 := eq_true q16))
               go_roundg k2
               case measure => have := HJ1.out; have := HK2.out; omega
               case rel => exact ⟨(wrap64 (x3_2 + 2)), (by first | rfl | (simp; done) | (simp [*]; done)), H', ⟨by have := HJ1.out; have := HK2.out; omega⟩, by repeat (first | exact Drawn0.refl _ | apply Drawn0.step)⟩
              ·rw [if_neg c17] at H
               have c17b0 : ((bt a0 (ji11)) == 43) = false := beq_eq_false_iff_ne.mpr c17
               have c17b1 : ((bt a0 (ji11)) != 43) = true := bne_iff_ne.mpr c17
               by_cases c19 : (bt a0 (ji11)) = 33
               ·rw [if_pos c19] at H
                have c19b0 : ((bt a0 (ji11)) == 33) = true := beq_iff_eq.mpr c19
                have c19b1 : ((bt a0 (ji11)) != 33) = false := bne_eq_false_iff_eq.mpr c19
                clear c19
                have H' := Aside0.mk H
                clear H
                go_wp2_with (first | ((with_reducible refine gate_callee (f := 90) rfl ?_); refine goesL_ (some 24) rfl rfl Try.func90 (by kernel_rfl) rfl #[.string (a0.extract (x3_2 : Int).toNat ((ji11) : Int).toNat)] rfl (by (try simp only [List.map_toArray, List.map_cons, List.map_nil]); first | done | (simp only [hji11]; rfl) | rfl | (simp only [List.length_drop, List.length_take]; rfl)) ?_; (with_reducible refine (spec_taWho.calls (a0.extract (x3_2 : Int).toNat ((ji11) : Int).toNat) true _ A9.out).mono ?_); rintro e w' ⟨rfl, ⟨nd, rfl⟩⟩; refine ⟨_, rfl, ?_⟩; have p14 : 0 ≤ ((ji11) : Int) := of_decide_eq_true (by first | (with_reducible assumption) | assumption); have q14 : (ji11) < (a0.size : Int) := of_decide_eq_true (by first | (with_reducible assumption) | assumption); have hx14 := bt_at a0 (ji11); replace p14 := eq_true p14; replace q14 := eq_true q14; have p16 : 0 ≤ ((ji11) : Int) := of_decide_eq_true (by first | (with_reducible assumption) | assumption); have q16 : (ji11) < (a0.size : Int) := of_decide_eq_true (by first | (with_reducible assumption) | assumption); have hx16 := bt_at a0 (ji11); replace p16 := eq_true p16; replace q16 := eq_true q16; have p18 : 0 ≤ ((ji11) : Int) := of_decide_eq_true (by first | (with_reducible assumption) | assumption); have q18 : (ji11) < (a0.size : Int) := of_decide_eq_true (by first | (with_reducible assumption) | assumption); have hx18 := bt_at a0 (ji11); replace p18 := eq_true p18; replace q18 := eq_true q18))
                go_roundg k2
                case measure => have := HJ1.out; have := HK2.out; omega
                case rel => exact ⟨(wrap64 (x3_2 + 2)), (by first | rfl | (simp; done) | (simp [*]; done)), H', ⟨by have := HJ1.out; have := HK2.out; omega⟩, by repeat (first | exact Drawn0.refl _ | apply Drawn0.step)⟩
               ·rw [if_neg c19] at H
                have c19b0 : ((bt a0 (ji11)) == 33) = false := beq_eq_false_iff_ne.mpr c19
                have c19b1 : ((bt a0 (ji11)) != 33) = true := bne_iff_ne.mpr c19
                obtain rfl := Option.some.inj H
                go_wp2_with (first | ((with_reducible refine gate_callee (f := 90) rfl ?_); refine goesL_ (some 24) rfl rfl Try.func90 (by kernel_rfl) rfl #[.string (a0.extract (x3_2 : Int).toNat ((ji11) : Int).toNat)] rfl (by (try simp only [List.map_toArray, List.map_cons, List.map_nil]); first | done | (simp only [hji11]; rfl) | rfl | (simp only [List.length_drop, List.length_take]; rfl)) ?_; (with_reducible refine (spec_taWho.calls (a0.extract (x3_2 : Int).toNat ((ji11) : Int).toNat) true _ A9.out).mono ?_); rintro e w' ⟨rfl, ⟨nd, rfl⟩⟩; refine ⟨_, rfl, ?_⟩; have p14 : 0 ≤ ((ji11) : Int) := of_decide_eq_true (by first | (with_reducible assumption) | assumption); have q14 : (ji11) < (a0.size : Int) := of_decide_eq_true (by first | (with_reducible assumption) | assumption); have hx14 := bt_at a0 (ji11); replace p14 := eq_true p14; replace q14 := eq_true q14; have p16 : 0 ≤ ((ji11) : Int) := of_decide_eq_true (by first | (with_reducible assumption) | assumption); have q16 : (ji11) < (a0.size : Int) := of_decide_eq_true (by first | (with_reducible assumption) | assumption); have hx16 := bt_at a0 (ji11); replace p16 := eq_true p16; replace q16 := eq_true q16; have p18 : 0 ≤ ((ji11) : Int) := of_decide_eq_true (by first | (with_reducible assumption) | assumption); have q18 : (ji11) < (a0.size : Int) := of_decide_eq_true (by first | (with_reducible assumption) | assumption); have hx18 := bt_at a0 (ji11); replace p18 := eq_true p18; replace q18 := eq_true q18))
                go_ret
                exact ⟨by first | rfl | (simp; done) | (simp only [← hji11] <;> (first | rfl | simp)) | (simp [*]; done), by repeat (first | exact Drawn0.refl _ | apply Drawn0.step)⟩
            ·rw [if_neg c13] at H
             exact absurd H (by simp)
           ·rw [if_neg c12] at H
            exact absurd H (by simp)
          ·replace c10 := Bool.eq_false_iff.mpr c10
           subst c10
           have H1 : (some false) = some r := by rw [if_neg (show ¬ (false = true) by decide)] at H; exact H
           clear H
           have H := H1
           clear H1
           obtain rfl := Option.some.inj H
           go_wp2_with (first | ((with_reducible refine gate_callee (f := 90) rfl ?_); refine goesL_ (some 24) rfl rfl Try.func90 (by kernel_rfl) rfl #[.string (a0.extract (x3_2 : Int).toNat ((wrap64 (x3_2 + 1)) : Int).toNat)] rfl (by (try simp only [List.map_toArray, List.map_cons, List.map_nil]); first | done | rfl | (simp only [List.length_drop, List.length_take]; rfl)) ?_; (with_reducible refine (spec_taWho.calls (a0.extract (x3_2 : Int).toNat ((wrap64 (x3_2 + 1)) : Int).toNat) false _ A9.out).mono ?_); rintro e w' ⟨rfl, ⟨nd, rfl⟩⟩; refine ⟨_, rfl, ?_⟩))
           go_ret
           exact ⟨by first | rfl | (simp; done) | (simp [*]; done), by repeat (first | exact Drawn0.refl _ | apply Drawn0.step)⟩
         ·rw [if_neg c8] at H
          exact absurd H (by simp)
        ·rw [if_neg c7] at H
         exact absurd H (by simp)
       ·rw [if_neg c6] at H
        exact absurd H (by simp)
      ·rw [if_neg c5] at H
       have c5b0 : decide (x3_2 < (a0.size : Int)) = false := decide_eq_false c5
       clear c5
       obtain rfl := Option.some.inj H
       go_wp2
       go_ret
       exact ⟨by first | rfl | (simp; done) | (simp [*]; done), by repeat (first | exact Drawn0.refl _ | apply Drawn0.step)⟩

/-! ### spec_taTold: function 103 -/
def spec_taTold.f (a0 : ByteArray) (l1 : List Int) : Option (Int) := if a0.toList = ([115] : List UInt8) then (if 0 < (l1.length : Int) then (if 1 < (l1.length : Int) then (some (wrap64 ((rd l1 0) + (rd l1 1)))) else (none)) else (none)) else (if 0 < (l1.length : Int) then (if 1 < (l1.length : Int) then (some (wrap64 ((rd l1 0) * (rd l1 1)))) else (none)) else (none))
set_option maxHeartbeats 8000000 in
set_option maxRecDepth 100000 in
theorem spec_taTold.calls (a0 : ByteArray) (A1 : Option Addr) (c1 : Nat) (l1 : List Int) (r : Int) (w : World) (hr1 : Kd.C (Kd.int .i64) w A1 l1.length l1) (hc1 : l1.length ≤ c1) (h : spec_taTold.f a0 l1 = some r) :
  Calls Try.prog 103 #[.string a0, .slice A1 l1.length c1] w fun e w' => e = .returned (.int .i64 r) ∧ Drawn0 w w' := by
 have HR1 := Aside0.mk hr1
 have HC1 := Aside0.mk hc1
 clear hr1 hc1
 have H : (if a0.toList = ([115] : List UInt8) then (if 0 < (l1.length : Int) then (if 1 < (l1.length : Int) then (some (wrap64 ((rd l1 0) + (rd l1 1)))) else (none)) else (none)) else (if 0 < (l1.length : Int) then (if 1 < (l1.length : Int) then (some (wrap64 ((rd l1 0) * (rd l1 1)))) else (none)) else (none))) = some r := h
 clear h
 by_cases c3 : a0.toList = ([115] : List UInt8)
 ·rw [if_pos c3] at H
  have c3b0 : (a0.toList == ([115] : List UInt8)) = true := beq_iff_eq.mpr c3
  have c3b1 : (a0.toList != ([115] : List UInt8)) = false := bne_eq_false_iff_eq.mpr c3
  clear c3
  by_cases c4 : 0 < (l1.length : Int)
  ·rw [if_pos c4] at H
   have c4b0 : decide (0 < (l1.length : Int)) = true := decide_eq_true c4
   have c4b1 : decide (0 < l1.length) = true := decide_eq_true (by omega)
   clear c4
   by_cases c5 : 1 < (l1.length : Int)
   ·rw [if_pos c5] at H
    have c5b0 : decide (1 < (l1.length : Int)) = true := decide_eq_true c5
    have c5b1 : decide (1 < l1.length) = true := decide_eq_true (by omega)
    clear c5
    obtain rfl := Option.some.inj H
    have p106 : 0 ≤ (0 : Int) := (by omega)
    have q106 : 0 < (l1.length : Int) := of_decide_eq_true (by first | (with_reducible assumption) | assumption)
    obtain ⟨ad106, e106, hx106_0⟩ := Kd.at_int HR1.out 0 p106 q106
    cases e106
    have qi106 : (0 < l1.length) = True := eq_true (by omega)
    (try rw [show ((0 : Int)).toNat = 0 from rfl] at hx106_0)
    (try rw [Addr.add_zero'] at hx106_0)
    replace p106 := eq_true p106
    replace q106 := eq_true q106
    have p107 : 0 ≤ (1 : Int) := (by omega)
    have q107 : 1 < (l1.length : Int) := of_decide_eq_true (by first | (with_reducible assumption) | assumption)
    obtain ⟨ad107, e107, hx107_0⟩ := Kd.at_int HR1.out 1 p107 q107
    obtain rfl : ad106 = ad107 := (by injection e107)
    (try simp only [show (1 : Int).toNat = 1 from rfl, Nat.reduceMul, Nat.reduceEqDiff, Go.Addr.add, ↓reduceIte] at hx107_0)
    have qi107 : (1 < l1.length) = True := eq_true (by omega)
    (try rw [show ((1 : Int)).toNat = 1 from rfl] at hx107_0)
    replace p107 := eq_true p107
    replace q107 := eq_true q107
    go_enter Try.func103, Try.ntmps103
    go_wp2
    repeat (go_quiet (fail); try go_wp2)
    go_ret
    exact ⟨by first | rfl | (simp; done) | (simp [*]; done), by repeat (first | exact Drawn0.refl _ | apply Drawn0.step)⟩
   ·rw [if_neg c5] at H
    exact absurd H (by simp)
  ·rw [if_neg c4] at H
   exact absurd H (by simp)
 ·rw [if_neg c3] at H
  have c3b0 : (a0.toList == ([115] : List UInt8)) = false := beq_eq_false_iff_ne.mpr c3
  have c3b1 : (a0.toList != ([115] : List UInt8)) = true := bne_iff_ne.mpr c3
  by_cases c6 : 0 < (l1.length : Int)
  ·rw [if_pos c6] at H
   have c6b0 : decide (0 < (l1.length : Int)) = true := decide_eq_true c6
   have c6b1 : decide (0 < l1.length) = true := decide_eq_true (by omega)
   clear c6
   by_cases c7 : 1 < (l1.length : Int)
   ·rw [if_pos c7] at H
    have c7b0 : decide (1 < (l1.length : Int)) = true := decide_eq_true c7
    have c7b1 : decide (1 < l1.length) = true := decide_eq_true (by omega)
    clear c7
    obtain rfl := Option.some.inj H
    have p108 : 0 ≤ (0 : Int) := (by omega)
    have q108 : 0 < (l1.length : Int) := of_decide_eq_true (by first | (with_reducible assumption) | assumption)
    obtain ⟨ad108, e108, hx108_0⟩ := Kd.at_int HR1.out 0 p108 q108
    cases e108
    have qi108 : (0 < l1.length) = True := eq_true (by omega)
    (try rw [show ((0 : Int)).toNat = 0 from rfl] at hx108_0)
    (try rw [Addr.add_zero'] at hx108_0)
    replace p108 := eq_true p108
    replace q108 := eq_true q108
    have p109 : 0 ≤ (1 : Int) := (by omega)
    have q109 : 1 < (l1.length : Int) := of_decide_eq_true (by first | (with_reducible assumption) | assumption)
    obtain ⟨ad109, e109, hx109_0⟩ := Kd.at_int HR1.out 1 p109 q109
    obtain rfl : ad108 = ad109 := (by injection e109)
    (try simp only [show (1 : Int).toNat = 1 from rfl, Nat.reduceMul, Nat.reduceEqDiff, Go.Addr.add, ↓reduceIte] at hx109_0)
    have qi109 : (1 < l1.length) = True := eq_true (by omega)
    (try rw [show ((1 : Int)).toNat = 1 from rfl] at hx109_0)
    replace p109 := eq_true p109
    replace q109 := eq_true q109
    go_enter Try.func103, Try.ntmps103
    go_wp2
    repeat (go_quiet (fail); try go_wp2)
    go_ret
    exact ⟨by first | rfl | (simp; done) | (simp [*]; done), by repeat (first | exact Drawn0.refl _ | apply Drawn0.step)⟩
   ·rw [if_neg c7] at H
    exact absurd H (by simp)
  ·rw [if_neg c6] at H
   exact absurd H (by simp)

/-! ### spec_taCounts: function 109 -/
def spec_taCounts.l0 : Nat → ByteArray → List Int → List (List Int) → Int → Int → Option (List Int)
 | 0, _, _, _, _, _ => none
 | k + 1, x1, x5, x9, x10, x11 => if x11 < x10 then (if 0 ≤ x11 then (if x11 < (x9.length : Int) then ((spec_taTold.f x1 (rd_L1 x9 x11)).bind fun t114 => (if 0 ≤ t114 then (if t114 < (x5.length : Int) then (spec_taCounts.l0 k x1 (x5.set (t114 : Int).toNat (wrap64 ((rd x5 t114) + 1))) x9 x10 (wrap64 (x11 + 1))) else (none)) else (none))) else (none)) else (none)) else (some x5)
def spec_taCounts.f (k : Nat) (l0 : List (List Int)) (a1 : ByteArray) : Option (List Int) := if 1601 ≤ 35184372088832 then (spec_taCounts.l0 k a1 (List.replicate 1601 0) l0 (l0.length : Int) 0) else (none)
set_option maxHeartbeats 8000000 in
set_option maxRecDepth 100000 in
theorem spec_taCounts.calls (k : Nat) (A0 : Option Addr) (c0 : Nat) (l0 : List (List Int)) (a1 : ByteArray) (r : List Int) (w : World) (hr0 : Kd.C (Kd.slice 3 (Kd.int .i64)) w A0 l0.length l0) (hc0 : l0.length ≤ c0) (h : spec_taCounts.f k l0 a1 = some r) :
  Calls Try.prog 109 #[.slice A0 l0.length c0, .string a1] w fun e w' => ∃ v0_ : Value, e = .returned (v0_) ∧ Kd.R (Kd.int .i64) 3 w' w.heap.size (fun _ => True) v0_ r ∧ Below w.heap.size w w' := by
 have HR0 := Aside0.mk hr0
 have HC0 := Aside0.mk hc0
 clear hr0 hc0
 have HB := Aside0.mk (Below.refl w.heap.size w)
 have H : (if 1601 ≤ 35184372088832 then (spec_taCounts.l0 k a1 (List.replicate 1601 0) l0 (l0.length : Int) 0) else (none)) = some r := h
 clear h
 by_cases c3 : 1601 ≤ 35184372088832
 ·rw [if_pos c3] at H
  have c3b0 := eq_true c3
  have c3b1 : decide (1601 ≤ 35184372088832) = true := decide_eq_true c3
  clear c3
  obtain ⟨y110, hy110⟩ : ∃ y_ : List Int, y_ = (List.replicate 1601 0) := ⟨_, rfl⟩
  replace H : (spec_taCounts.l0 k a1 y110 l0 (l0.length : Int) 0) = some r := by first | (rw [hy110]; with_reducible exact H) | (have H2_ := (Option.bind_some _ _).symm.trans H; rw [hy110]; with_reducible exact H2_) | (have H2_ := (Option.bind_some _ _).symm.trans H; with_reducible exact H2_) | with_reducible exact H | (rw [hy110]; exact H) | exact H
  have Ny110 := Aside0.mk hy110
  clear hy110
  have H' := Aside0.mk H
  clear H
  go_enter Try.func109, Try.ntmps109
  go_wp2_with (first | ((with_reducible refine gate_dst (N := 8) rfl ?_); refine Kd.R_make (Kd.int .i64) _ 3 rfl (N := 8) rfl 36 _ _ rfl 1601 rfl rfl Try.underlying36 (.int .i64 0) 8 info3 rfl (by decide) (by omega) 0 (ok := fun _ => True) (okp := fun _ => True) rfl (fun _ hk => hk) trivial (by omega) (by omega) (Below.refl _ _) (Nat.le_refl _) ?_; intro v111 w4 ho5 hb hg_ hnew_; clear hg_ hnew_; (first | rw [← Ny110.out] at ho5 | (simp only [Int.reduceToNat] at ho5; rw [← Ny110.out] at ho5)); have n0_ := Aside0.mk (Kd.R_lower ho5 (below_size (by repeat (first | (with_reducible first | exact HB.out | apply below_alloc | apply pw_below_drewN | apply below_drew1) | exact HB.out)))); have n1_ := Aside0.mk (below_step (by repeat (first | (with_reducible first | exact HB.out | apply below_alloc | apply pw_below_drewN | apply below_drew1) | exact HB.out)) hb); clear HB; have HO112 := n0_; have HB := n1_; clear n0_ n1_; clear hb ho5))
  go_loopg [11] k (fun kq v11 w' => ∃ (x5_1 : List Int) (x11_1 : Int), v11 = .int .i64 x11_1 ∧ Aside0 (spec_taCounts.l0 kq a1 x5_1 l0 (l0.length : Int) x11_1 = some r) ∧ Aside0 (kq ≤ k) ∧ Aside0 (Kd.R (Kd.int .i64) 3 w' w.heap.size (fun _ => True) v111 x5_1) ∧ Aside0 (Below w.heap.size w w'))
  case atStart => exact ⟨(y110), (0), (by first | rfl | (simp; done) | (simp [*]; done)), H', ⟨Nat.le_refl _⟩, ⟨by (with_reducible repeat (first | apply Kd.R_alloc | apply Kd.R_drewN | apply Kd.R_drew)); exact HO112.out⟩, ⟨by repeat (first | (with_reducible first | exact HB.out | apply below_alloc | apply pw_below_drewN | apply below_drew1) | exact HB.out)⟩⟩
  case round =>
   clear H'
   try clear c1
   try clear p2
   try clear c3
   try clear c3b0
   try clear c3b1
   obtain ⟨x5_1, x11_1, rfl, HA, HK1, HO_5, HB⟩ := hrel
   cases gk with
   | zero => exact absurd HA.out (by simp [spec_taCounts.l0])
   | succ k1 =>
    have H := HA.out
    clear HA
    simp only [spec_taCounts.l0] at H
    by_cases c6 : x11_1 < (l0.length : Int)
    ·rw [if_pos c6] at H
     have c6b0 : decide (x11_1 < (l0.length : Int)) = true := decide_eq_true c6
     clear c6
     by_cases c7 : 0 ≤ x11_1
     ·rw [if_pos c7] at H
      have c7b0 : decide (0 ≤ x11_1) = true := decide_eq_true c7
      clear c7
      by_cases c8 : x11_1 < (l0.length : Int)
      ·rw [if_pos c8] at H
       have c8b0 : decide (x11_1 < (l0.length : Int)) = true := decide_eq_true c8
       clear c8
       replace H := Option.bind_eq_some_iff.mp H
       obtain ⟨t114, A90, H⟩ := H
       replace H : (if 0 ≤ t114 then (if t114 < (x5_1.length : Int) then (spec_taCounts.l0 k1 a1 (x5_1.set (t114 : Int).toNat (wrap64 ((rd x5_1 t114) + 1))) l0 (l0.length : Int) (wrap64 (x11_1 + 1))) else (none)) else (none)) = some r := H
       have A9 := Aside0.mk A90
       clear A90
       by_cases c10 : 0 ≤ t114
       ·rw [if_pos c10] at H
        have c10b0 : decide (0 ≤ t114) = true := decide_eq_true c10
        clear c10
        by_cases c11 : t114 < (x5_1.length : Int)
        ·rw [if_pos c11] at H
         have c11b0 : decide (t114 < (x5_1.length : Int)) = true := decide_eq_true c11
         clear c11
         obtain ⟨y116, hy116⟩ : ∃ y_ : List Int, y_ = (x5_1.set (t114 : Int).toNat (wrap64 ((rd x5_1 t114) + 1))) := ⟨_, rfl⟩
         replace H : (spec_taCounts.l0 k1 a1 y116 l0 (l0.length : Int) (wrap64 (x11_1 + 1))) = some r := by first | (rw [hy116]; with_reducible exact H) | (have H2_ := (Option.bind_some _ _).symm.trans H; rw [hy116]; with_reducible exact H2_) | (have H2_ := (Option.bind_some _ _).symm.trans H; with_reducible exact H2_) | with_reducible exact H | (rw [hy116]; exact H) | exact H
         have Ny116 := Aside0.mk hy116
         clear hy116
         have H' := Aside0.mk H
         clear H
         have p113 : 0 ≤ (x11_1 : Int) := of_decide_eq_true (by first | (with_reducible assumption) | assumption)
         have q113 : x11_1 < (l0.length : Int) := of_decide_eq_true (by first | (with_reducible assumption) | assumption)
         obtain ⟨ad113, A113_0, c113_0, e113, hx113_0, hl113_0, hi113_0⟩ := at_L1 HR0.out x11_1 p113 q113
         cases e113
         replace hx113_0 := (HB.out.cell (World.block_lt_of_cell? w _ hx113_0)).trans hx113_0
         have HR113_0 := Aside0.mk hi113_0
         have HC113_0 := Aside0.mk hl113_0
         clear hi113_0 hl113_0
         replace p113 := eq_true p113
         replace q113 := eq_true q113
         go_wp2_with (first | ((with_reducible refine gate_callee (f := 103) rfl ?_); refine goesL_ (some 18) rfl rfl Try.func103 (by kernel_rfl) rfl #[.string a1, .slice A113_0 (rd_L1 l0 x11_1).length c113_0] rfl (by (try simp only [List.map_toArray, List.map_cons, List.map_nil]); first | done | rfl | (simp only [List.length_drop, List.length_take]; rfl)) ?_; (with_reducible refine (spec_taTold.calls a1 _ _ (rd_L1 l0 x11_1) t114 _ ?side1 ?side2 A9.out).mono ?_); (case side1 => repeat (first | exact (Kd.C_below HR113_0.out HB.out) | (with_reducible refine Kd.C_alloc ?_ _) | (with_reducible refine Kd.C_drewN ?_ _) | (with_reducible refine Kd.C_drew ?_))); (case side2 => exact HC113_0.out); rintro e w' ⟨rfl, ⟨nd, rfl⟩⟩; refine ⟨_, rfl, ?_⟩; (try (rw [drewN_self wr]; generalize hq_ : World.drewN wr _ = wr; have n0_ : Aside0 (Kd.R (Kd.int .i64) 3 wr w.heap.size (fun _ => True) v111 x5_1) := ⟨by rw [← hq_]; exact (by (with_reducible repeat (first | apply Kd.R_alloc | apply Kd.R_drewN | apply Kd.R_drew)); exact HO_5.out)⟩; have n1_ : Aside0 (Below w.heap.size w wr) := ⟨by rw [← hq_]; exact (by repeat (first | (with_reducible first | exact HB.out | apply below_alloc | apply pw_below_drewN | apply below_drew1) | exact HB.out))⟩; clear HO_5 HB hq_; have HO_5 := n0_; have HB := n1_; clear n0_ n1_)); obtain ⟨Ao13, co13, eo13⟩ := Kd.R_slice HO_5.out; subst eo13; have p115 : 0 ≤ (t114 : Int) := of_decide_eq_true (by first | (with_reducible assumption) | assumption); have q115 : t114 < (x5_1.length : Int) := of_decide_eq_true (by first | (with_reducible assumption) | assumption); obtain ⟨ad115, e115, hx115_0⟩ := Kd.at_int (Kd.R_reads' HO_5.out).2.2 t114 p115 q115; cases e115; replace p115 := eq_true p115; replace q115 := eq_true q115; have p12 : 0 ≤ (t114 : Int) := of_decide_eq_true (by first | (with_reducible assumption) | assumption); have q12 : (t114 : Int) < ((x5_1.length : Int) : Int) := of_decide_eq_true (by first | (with_reducible assumption) | assumption); obtain ⟨go12, co12, eo12, gb12, gl12, cl12, HG12⟩ := Kd.R_form HO_5.out (by omega); (first | cases eo12 | (injection eo12 with ea_ en_ ec_; (first | subst ea_ | (injection ea_ with ea_; subst ea_)); subst ec_; clear en_)); have GB12 := Aside0.mk gb12; have GG12 := Aside0.mk HG12; clear gb12 gl12 HG12; (first | simp only [add_plain] at hx115_0 | skip); obtain ⟨hx12_0, hf12_0⟩ := Kd.R_celln 0 HO_5.out (t114 : Int) p12 q12; replace p12 := eq_true p12; replace q12 := eq_true q12; obtain ⟨hy14_, hz14_⟩ := Kd.R_celln 0 HO_5.out (t114 : Int) (of_decide_eq_true (by first | (with_reducible assumption) | assumption)) (of_decide_eq_true (by first | (with_reducible assumption) | assumption)); have HP14 := Kd.R_putg HO_5.out (t114 : Int) (wrap64 ((rd x5_1 t114) + 1))) | ((with_reducible refine gate_store (t := 3) (p := 22) rfl ?_); refine store_event (t := 3) (p := 22) (v := ?vo_w15) (w1 := (wr.setCell ⟨go12, (t114 : Int).toNat, none⟩ (.int .i64 (wrap64 ((rd x5_1 t114) + 1))))) ?hg ?ho ?hn ?hr ?_; (case ho => rfl); (case hg => rfl); (case hn => rfl); (case hr => first | (go_simp; done) | (go_simp; rfl)); intro w15 hw; have hg : wr.grownBy w15 (some go12) := (by rw [hw]; exact HP14.2); have hp_ : Kd.R (Kd.int .i64) 3 w15 w.heap.size (fun _ => True) (.slice (some ⟨go12, 0, none⟩) x5_1.length co13) y116 := (by rw [hw, Ny116.out]; exact HP14.1); clear HP14; have n0_ := Aside0.mk (hp_); have n1_ := Aside0.mk ((by rw [hw]; exact below_set (HB.out) GB12.out : Below w.heap.size w w15)); clear HO_5; clear HB; have HO_5 := n0_; have HB := n1_; clear n0_ n1_; clear hg hw hp_))
         go_roundg k1
         case measure => have := HK1.out; omega
         case rel => exact ⟨(y116), (wrap64 (x11_1 + 1)), (by first | rfl | (simp; done) | (simp [*]; done)), H', ⟨by have := HK1.out; omega⟩, ⟨by (with_reducible repeat (first | apply Kd.R_alloc | apply Kd.R_drewN | apply Kd.R_drew)); exact HO_5.out⟩, ⟨by repeat (first | (with_reducible first | exact HB.out | apply below_alloc | apply pw_below_drewN | apply below_drew1) | exact HB.out)⟩⟩
        ·rw [if_neg c11] at H
         exact absurd H (by simp)
       ·rw [if_neg c10] at H
        exact absurd H (by simp)
      ·rw [if_neg c8] at H
       exact absurd H (by simp)
     ·rw [if_neg c7] at H
      exact absurd H (by simp)
    ·rw [if_neg c6] at H
     have c6b0 : decide (x11_1 < (l0.length : Int)) = false := decide_eq_false c6
     clear c6
     obtain rfl := Option.some.inj H
     go_wp2
     go_ret
     exact ⟨_, by first | rfl | (simp [errW_none, errW_some] <;> rfl) | (simp [*, errW_none, errW_some] <;> rfl), by (with_reducible repeat (first | apply Kd.R_alloc | apply Kd.R_drewN | apply Kd.R_drew)); exact HO_5.out, by repeat (first | (with_reducible first | exact HB.out | apply below_alloc | apply pw_below_drewN | apply below_drew1) | exact HB.out)⟩
 ·rw [if_neg c3] at H
  exact absurd H (by simp)

end Go.Proofs.Ytlkbphhmahipdaa.P
namespace Go.Proofs.Ytlkbphhmahipdaa.P
open Go.RowKit Go.Proofs.YtlkbphhmahipdaaW.PrintWords Go.Proofs.YtlkbphhmahipdaaW.PrintLast Go.Proofs.YtlkbphhmahipdaaW.PrintMore
attribute [local go_sem] max2_int min2_int max_two min_two max_three min_three max_four min_four   -- for this text's walks alone
set_option linter.unusedVariables false
set_option linter.unusedSimpArgs false

/-! ### impl_between: function 107 -/
def impl_between.f (a0 : Int) (a1 : Int) (a2 : Int) : Option (Bool) := if a0 ≥ a1 then (some (decide (a0 ≤ a2))) else (some false)
set_option maxHeartbeats 8000000 in
set_option maxRecDepth 100000 in
theorem impl_between.calls (a0 : Int) (a1 : Int) (a2 : Int) (r : Bool) (w : World) (h : impl_between.f a0 a1 a2 = some r) :
  Calls Try.prog 107 #[.int .i64 a0, .int .i64 a1, .int .i64 a2] w fun e w' => e = .returned (.bool r) ∧ Drawn0 w w' := by
 have H : (if a0 ≥ a1 then (some (decide (a0 ≤ a2))) else (some false)) = some r := h
 clear h
 by_cases c4 : a0 ≥ a1
 ·rw [if_pos c4] at H
  have c4b0 : decide (a1 ≤ a0) = true := decide_eq_true c4
  clear c4
  obtain rfl := Option.some.inj H
  go_enter Try.func107, Try.ntmps107
  go_wp2
  go_ret
  exact ⟨by first | rfl | (simp; done) | (simp [*]; done), by repeat (first | exact Drawn0.refl _ | apply Drawn0.step)⟩
 ·rw [if_neg c4] at H
  have c4b0 : decide (a1 ≤ a0) = false := decide_eq_false c4
  clear c4
  obtain rfl := Option.some.inj H
  go_enter Try.func107, Try.ntmps107
  go_wp2
  go_ret
  exact ⟨by first | rfl | (simp; done) | (simp [*]; done), by repeat (first | exact Drawn0.refl _ | apply Drawn0.step)⟩

/-! ### impl_isMost: function 74 -/
def impl_isMost.f (a0 : Int) : Option (Bool) := (impl_between.f a0 2 40).bind fun t126 => (some t126)
set_option maxHeartbeats 8000000 in
set_option maxRecDepth 100000 in
theorem impl_isMost.calls (a0 : Int) (r : Bool) (w : World) (h : impl_isMost.f a0 = some r) :
  Calls Try.prog 74 #[.int .i64 a0] w fun e w' => e = .returned (.bool r) ∧ Drawn0 w w' := by
 have H : ((impl_between.f a0 2 40).bind fun t126 => (some t126)) = some r := h
 clear h
 replace H := Option.bind_eq_some_iff.mp H
 obtain ⟨t126, A20, H⟩ := H
 replace H : (some t126) = some r := H
 have A2 := Aside0.mk A20
 clear A20
 obtain rfl := Option.some.inj H
 go_enter Try.func74, Try.ntmps74
 go_wp2_with (first | ((with_reducible refine gate_callee (f := 107) rfl ?_); refine goesL_ (some 4) rfl rfl Try.func107 (by kernel_rfl) rfl #[.int .i64 a0, .int .i64 2, .int .i64 40] rfl (by (try simp only [List.map_toArray, List.map_cons, List.map_nil]); first | done | rfl | (simp only [List.length_drop, List.length_take]; rfl)) ?_; (with_reducible refine (impl_between.calls a0 2 40 t126 _ A2.out).mono ?_); rintro e w' ⟨rfl, ⟨nd, rfl⟩⟩; refine ⟨_, rfl, ?_⟩))
 go_ret
 exact ⟨by first | rfl | (simp; done) | (simp [*]; done), by repeat (first | exact Drawn0.refl _ | apply Drawn0.step)⟩

/-! ### impl_isPair: function 80 -/
def impl_isPair.f (a0 : Int) (a1 : Int) (a2 : Int) : Option (Bool) := (impl_isMost.f a0).bind fun t127 => (if t127 = true then ((impl_between.f a1 1 a2).bind fun t128 => (if t128 = true then ((impl_between.f a2 1 a0).bind fun t129 => (some t129)) else (some false))) else (some false))
set_option maxHeartbeats 8000000 in
set_option maxRecDepth 100000 in
theorem impl_isPair.calls (a0 : Int) (a1 : Int) (a2 : Int) (r : Bool) (w : World) (h : impl_isPair.f a0 a1 a2 = some r) :
  Calls Try.prog 80 #[.int .i64 a0, .int .i64 a1, .int .i64 a2] w fun e w' => e = .returned (.bool r) ∧ Drawn0 w w' := by
 have H : ((impl_isMost.f a0).bind fun t127 => (if t127 = true then ((impl_between.f a1 1 a2).bind fun t128 => (if t128 = true then ((impl_between.f a2 1 a0).bind fun t129 => (some t129)) else (some false))) else (some false))) = some r := h
 clear h
 replace H := Option.bind_eq_some_iff.mp H
 obtain ⟨t127, A40, H⟩ := H
 replace H : (if t127 = true then ((impl_between.f a1 1 a2).bind fun t128 => (if t128 = true then ((impl_between.f a2 1 a0).bind fun t129 => (some t129)) else (some false))) else (some false)) = some r := H
 have A4 := Aside0.mk A40
 clear A40
 by_cases c5 : t127 = true
 ·subst c5
  have H1 : ((impl_between.f a1 1 a2).bind fun t128 => (if t128 = true then ((impl_between.f a2 1 a0).bind fun t129 => (some t129)) else (some false))) = some r := by rw [if_pos rfl] at H; exact H
  clear H
  have H := H1
  clear H1
  replace H := Option.bind_eq_some_iff.mp H
  obtain ⟨t128, A60, H⟩ := H
  replace H : (if t128 = true then ((impl_between.f a2 1 a0).bind fun t129 => (some t129)) else (some false)) = some r := H
  have A6 := Aside0.mk A60
  clear A60
  by_cases c7 : t128 = true
  ·subst c7
   have H1 : ((impl_between.f a2 1 a0).bind fun t129 => (some t129)) = some r := by rw [if_pos rfl] at H; exact H
   clear H
   have H := H1
   clear H1
   replace H := Option.bind_eq_some_iff.mp H
   obtain ⟨t129, A80, H⟩ := H
   replace H : (some t129) = some r := H
   have A8 := Aside0.mk A80
   clear A80
   obtain rfl := Option.some.inj H
   go_enter Try.func80, Try.ntmps80
   go_wp2_with (first | ((with_reducible refine gate_callee (f := 74) rfl ?_); refine goesL_ (some 8) rfl rfl Try.func74 (by kernel_rfl) rfl #[.int .i64 a0] rfl (by (try simp only [List.map_toArray, List.map_cons, List.map_nil]); first | done | rfl | (simp only [List.length_drop, List.length_take]; rfl)) ?_; (with_reducible refine (impl_isMost.calls a0 true _ A4.out).mono ?_); rintro e w' ⟨rfl, ⟨nd, rfl⟩⟩; refine ⟨_, rfl, ?_⟩) | (go_at_call 107; (with_reducible refine (impl_between.calls a1 1 a2 true _ A6.out).mono ?_); rintro e w' ⟨rfl, ⟨nd, rfl⟩⟩) | (go_at_call 107; (with_reducible refine (impl_between.calls a2 1 a0 t129 _ A8.out).mono ?_); rintro e w' ⟨rfl, ⟨nd, rfl⟩⟩))
   go_ret
   exact ⟨by first | rfl | (simp; done) | (simp [*]; done), by repeat (first | exact Drawn0.refl _ | apply Drawn0.step)⟩
  ·replace c7 := Bool.eq_false_iff.mpr c7
   subst c7
   have H1 : (some false) = some r := by rw [if_neg (show ¬ (false = true) by decide)] at H; exact H
   clear H
   have H := H1
   clear H1
   obtain rfl := Option.some.inj H
   go_enter Try.func80, Try.ntmps80
   go_wp2_with (first | ((with_reducible refine gate_callee (f := 74) rfl ?_); refine goesL_ (some 8) rfl rfl Try.func74 (by kernel_rfl) rfl #[.int .i64 a0] rfl (by (try simp only [List.map_toArray, List.map_cons, List.map_nil]); first | done | rfl | (simp only [List.length_drop, List.length_take]; rfl)) ?_; (with_reducible refine (impl_isMost.calls a0 true _ A4.out).mono ?_); rintro e w' ⟨rfl, ⟨nd, rfl⟩⟩; refine ⟨_, rfl, ?_⟩) | (go_at_call 107; (with_reducible refine (impl_between.calls a1 1 a2 false _ A6.out).mono ?_); rintro e w' ⟨rfl, ⟨nd, rfl⟩⟩))
   go_ret
   exact ⟨by first | rfl | (simp; done) | (simp [*]; done), by repeat (first | exact Drawn0.refl _ | apply Drawn0.step)⟩
 ·replace c5 := Bool.eq_false_iff.mpr c5
  subst c5
  have H1 : (some false) = some r := by rw [if_neg (show ¬ (false = true) by decide)] at H; exact H
  clear H
  have H := H1
  clear H1
  obtain rfl := Option.some.inj H
  go_enter Try.func80, Try.ntmps80
  go_wp2_with (first | ((with_reducible refine gate_callee (f := 74) rfl ?_); refine goesL_ (some 8) rfl rfl Try.func74 (by kernel_rfl) rfl #[.int .i64 a0] rfl (by (try simp only [List.map_toArray, List.map_cons, List.map_nil]); first | done | rfl | (simp only [List.length_drop, List.length_take]; rfl)) ?_; (with_reducible refine (impl_isMost.calls a0 false _ A4.out).mono ?_); rintro e w' ⟨rfl, ⟨nd, rfl⟩⟩; refine ⟨_, rfl, ?_⟩))
  go_ret
  exact ⟨by first | rfl | (simp; done) | (simp [*]; done), by repeat (first | exact Drawn0.refl _ | apply Drawn0.step)⟩

/-! ### impl_value: function 102 -/
def impl_value.f (l0 : List Int) (a1 : ByteArray) : Option (Int) := if a1.toList = ([115] : List UInt8) then (if 0 < (l0.length : Int) then (if 1 < (l0.length : Int) then (some (wrap64 ((rd l0 0) + (rd l0 1)))) else (none)) else (none)) else (if 0 < (l0.length : Int) then (if 1 < (l0.length : Int) then (some (wrap64 ((rd l0 0) * (rd l0 1)))) else (none)) else (none))
set_option maxHeartbeats 8000000 in
set_option maxRecDepth 100000 in
theorem impl_value.calls (A0 : Option Addr) (c0 : Nat) (l0 : List Int) (a1 : ByteArray) (r : Int) (w : World) (hr0 : Kd.C (Kd.int .i64) w A0 l0.length l0) (hc0 : l0.length ≤ c0) (h : impl_value.f l0 a1 = some r) :
  Calls Try.prog 102 #[.slice A0 l0.length c0, .string a1] w fun e w' => e = .returned (.int .i64 r) ∧ Drawn0 w w' := by
 have HR0 := Aside0.mk hr0
 have HC0 := Aside0.mk hc0
 clear hr0 hc0
 have H : (if a1.toList = ([115] : List UInt8) then (if 0 < (l0.length : Int) then (if 1 < (l0.length : Int) then (some (wrap64 ((rd l0 0) + (rd l0 1)))) else (none)) else (none)) else (if 0 < (l0.length : Int) then (if 1 < (l0.length : Int) then (some (wrap64 ((rd l0 0) * (rd l0 1)))) else (none)) else (none))) = some r := h
 clear h
 by_cases c3 : a1.toList = ([115] : List UInt8)
 ·rw [if_pos c3] at H
  have c3b0 : (a1.toList == ([115] : List UInt8)) = true := beq_iff_eq.mpr c3
  have c3b1 : (a1.toList != ([115] : List UInt8)) = false := bne_eq_false_iff_eq.mpr c3
  clear c3
  by_cases c4 : 0 < (l0.length : Int)
  ·rw [if_pos c4] at H
   have c4b0 : decide (0 < (l0.length : Int)) = true := decide_eq_true c4
   have c4b1 : decide (0 < l0.length) = true := decide_eq_true (by omega)
   clear c4
   by_cases c5 : 1 < (l0.length : Int)
   ·rw [if_pos c5] at H
    have c5b0 : decide (1 < (l0.length : Int)) = true := decide_eq_true c5
    have c5b1 : decide (1 < l0.length) = true := decide_eq_true (by omega)
    clear c5
    obtain rfl := Option.some.inj H
    have p130 : 0 ≤ (0 : Int) := (by omega)
    have q130 : 0 < (l0.length : Int) := of_decide_eq_true (by first | (with_reducible assumption) | assumption)
    obtain ⟨ad130, e130, hx130_0⟩ := Kd.at_int HR0.out 0 p130 q130
    cases e130
    have qi130 : (0 < l0.length) = True := eq_true (by omega)
    (try rw [show ((0 : Int)).toNat = 0 from rfl] at hx130_0)
    (try rw [Addr.add_zero'] at hx130_0)
    replace p130 := eq_true p130
    replace q130 := eq_true q130
    have p131 : 0 ≤ (1 : Int) := (by omega)
    have q131 : 1 < (l0.length : Int) := of_decide_eq_true (by first | (with_reducible assumption) | assumption)
    obtain ⟨ad131, e131, hx131_0⟩ := Kd.at_int HR0.out 1 p131 q131
    obtain rfl : ad130 = ad131 := (by injection e131)
    (try simp only [show (1 : Int).toNat = 1 from rfl, Nat.reduceMul, Nat.reduceEqDiff, Go.Addr.add, ↓reduceIte] at hx131_0)
    have qi131 : (1 < l0.length) = True := eq_true (by omega)
    (try rw [show ((1 : Int)).toNat = 1 from rfl] at hx131_0)
    replace p131 := eq_true p131
    replace q131 := eq_true q131
    go_enter Try.func102, Try.ntmps102
    go_wp2
    repeat (go_quiet (fail); try go_wp2)
    go_ret
    exact ⟨by first | rfl | (simp; done) | (simp [*]; done), by repeat (first | exact Drawn0.refl _ | apply Drawn0.step)⟩
   ·rw [if_neg c5] at H
    exact absurd H (by simp)
  ·rw [if_neg c4] at H
   exact absurd H (by simp)
 ·rw [if_neg c3] at H
  have c3b0 : (a1.toList == ([115] : List UInt8)) = false := beq_eq_false_iff_ne.mpr c3
  have c3b1 : (a1.toList != ([115] : List UInt8)) = true := bne_iff_ne.mpr c3
  by_cases c6 : 0 < (l0.length : Int)
  ·rw [if_pos c6] at H
   have c6b0 : decide (0 < (l0.length : Int)) = true := decide_eq_true c6
   have c6b1 : decide (0 < l0.length) = true := decide_eq_true (by omega)
   clear c6
   by_cases c7 : 1 < (l0.length : Int)
   ·rw [if_pos c7] at H
    have c7b0 : decide (1 < (l0.length : Int)) = true := decide_eq_true c7
    have c7b1 : decide (1 < l0.length) = true := decide_eq_true (by omega)
    clear c7
    obtain rfl := Option.some.inj H
    have p132 : 0 ≤ (0 : Int) := (by omega)
    have q132 : 0 < (l0.length : Int) := of_decide_eq_true (by first | (with_reducible assumption) | assumption)
    obtain ⟨ad132, e132, hx132_0⟩ := Kd.at_int HR0.out 0 p132 q132
    cases e132
    have qi132 : (0 < l0.length) = True := eq_true (by omega)
    (try rw [show ((0 : Int)).toNat = 0 from rfl] at hx132_0)
    (try rw [Addr.add_zero'] at hx132_0)
    replace p132 := eq_true p132
    replace q132 := eq_true q132
    have p133 : 0 ≤ (1 : Int) := (by omega)
    have q133 : 1 < (l0.length : Int) := of_decide_eq_true (by first | (with_reducible assumption) | assumption)
    obtain ⟨ad133, e133, hx133_0⟩ := Kd.at_int HR0.out 1 p133 q133
    obtain rfl : ad132 = ad133 := (by injection e133)
    (try simp only [show (1 : Int).toNat = 1 from rfl, Nat.reduceMul, Nat.reduceEqDiff, Go.Addr.add, ↓reduceIte] at hx133_0)
    have qi133 : (1 < l0.length) = True := eq_true (by omega)
    (try rw [show ((1 : Int)).toNat = 1 from rfl] at hx133_0)
    replace p133 := eq_true p133
    replace q133 := eq_true q133
    go_enter Try.func102, Try.ntmps102
    go_wp2
    repeat (go_quiet (fail); try go_wp2)
    go_ret
    exact ⟨by first | rfl | (simp; done) | (simp [*]; done), by repeat (first | exact Drawn0.refl _ | apply Drawn0.step)⟩
   ·rw [if_neg c7] at H
    exact absurd H (by simp)
  ·rw [if_neg c6] at H
   exact absurd H (by simp)

end Go.Proofs.Ytlkbphhmahipdaa.P
namespace Go.Proofs.Ytlkbphhmahipdaa.P
open Go.RowKit Go.Proofs.YtlkbphhmahipdaaW.PrintWords Go.Proofs.YtlkbphhmahipdaaW.PrintLast Go.Proofs.YtlkbphhmahipdaaW.PrintMore
attribute [local go_sem] max2_int min2_int max_two min_two max_three min_three max_four min_four   -- for this text's walks alone
set_option linter.unusedVariables false
set_option linter.unusedSimpArgs false

/-! ### impl_counted: function 110, by hand -/
-- IMPORT Derived.Test.YtlkbphhmahipdaaTk
-- IMPORT Derived.Test.YtlkbphhmahipdaaMp
theorem impl_value.told (s : Bool) (p : Tk.PP) (h : (1 ≤ p.2.1 ∧ p.2.1 ≤ 40) ∧ (1 ≤ p.2.2 ∧ p.2.2 ≤ 40)) : impl_value.f (Tk.vl p) (Tk.wh s) = some (Tk.tv s (Tk.vl p)) := by
  have hb := Tk.tv_bd s p h
  cases s with
  | true =>
    have e : wrap64 (rd (Tk.vl p) 0 + rd (Tk.vl p) 1) = rd (Tk.vl p) 0 + rd (Tk.vl p) 1 := by simp [Tk.tv] at hb; unfold wrap64; omega
    simp [impl_value.f, Tk.vl, Tk.wh, Tk.tv] at e ⊢
    exact e
  | false =>
    have e : wrap64 (rd (Tk.vl p) 0 * rd (Tk.vl p) 1) = rd (Tk.vl p) 0 * rd (Tk.vl p) 1 := by simp [Tk.tv] at hb; unfold wrap64; omega
    simp [impl_value.f, Tk.vl, Tk.wh, Tk.tv] at e ⊢
    exact e
theorem impl_counted.step (s : Bool) (ps : List Tk.PP) (i : Nat) (hi : i < ps.length) : (fun y => if y = Tk.tv s (Tk.vl ps[i]) then ((Tk.cnt s (Tk.vals (ps.take i)) (Tk.tv s (Tk.vl ps[i])) : Int) + 1) else (Tk.cnt s (Tk.vals (ps.take i)) y : Int)) = fun y => (Tk.cnt s (Tk.vals (ps.take (i + 1))) y : Int) := by
  funext y
  rw [List.take_succ_eq_append_getElem hi]
  simp only [Tk.vals, Tk.cnt, List.map_append, List.map_cons, List.map_nil, List.countP_append, List.countP_cons, List.countP_nil]
  by_cases e : y = Tk.tv s (Tk.vl ps[i])
  · subst e; simp
  · have e' : ¬ Tk.tv s (Tk.vl ps[i]) = y := fun h => e h.symm
    simp [e, e']
set_option maxHeartbeats 4000000 in
set_option maxRecDepth 100000 in
theorem impl_counted.has (s : Bool) (base lo : Nat) (A : Option Addr) (c : Nat) (ps : List Tk.PP) (w : World) (hH : Tk.Has 36 3 w base lo (.slice A ps.length c) ps) (hok : Tk.Ok ps) :
    Calls Try.prog 110 #[.slice A ps.length c, .string (Tk.wh s)] w fun e w' => ∃ B, e = .returned (.map (some B)) ∧ Mp.MapI Try.prog 3 3 w' B ps.length (fun y => (Tk.cnt s (Tk.vals ps) y : Int)) ∧ w.heap.size ≤ B ∧ Below w.heap.size w w' := by
  have hm := fun (w : World) => Mp.MapI.made Try.prog 3 3 w
  have hmm := @run_makeMap Try.prog
  have HH := Aside0.mk hH
  have HO := Aside0.mk hok
  have hlen : ps.length ≤ 2000 := hok.1
  have HM := Aside0.mk hm
  clear hH hok hm
  generalize hwh : Tk.wh s = wo
  have HW := Aside0.mk hwh
  clear hwh
  go_enter Try.func110, Try.ntmps110
  go_wp2
  go_loopg [11] ps.length (fun gg s11 wr => ∃ k : Nat, s11 = .int .i64 (k : Int) ∧ k ≤ ps.length ∧ ps.length - k ≤ gg ∧ Aside0 (Mp.MapI Try.prog 3 3 wr w.heap.size k (fun y => (Tk.cnt s (Tk.vals (ps.take k)) y : Int))) ∧ Aside0 (Below w.heap.size w wr))
  case atStart => exact ⟨0, rfl, Nat.zero_le _, by omega, ⟨by simpa [Tk.vals, Tk.cnt] using HM.out w⟩, ⟨(Below.refl _ _).alloc (Nat.le_refl _) _⟩⟩
  case round =>
    obtain ⟨k, rfl, hk, hgg, HI, HB⟩ := hrel
    by_cases hi : k < ps.length
    · have hkz : (k : Int) < (ps.length : Int) := by omega
      have hH := HH.out.below HB.out
      obtain ⟨g, cap, ev, hcell⟩ := hH.at_ k hi
      obtain ⟨rfl, rfl⟩ : A = some ⟨g, 0, none⟩ ∧ c = cap := by injection ev with e1 e2 e3; exact ⟨e1, e3⟩
      have hbd := HO.out.2 ps[k] (List.getElem_mem hi)
      have htv := Tk.tv_bd s ps[k] hbd
      have hval := impl_value.calls (some ⟨ps[k].1, 0, none⟩) 2 (Tk.vl ps[k]) (Tk.wh s) (Tk.tv s (Tk.vl ps[k])) wr (hH.inn.C ps[k] (List.getElem_mem hi)) (by simp [Tk.vl]) (impl_value.told s ps[k] hbd)
      have hst := impl_counted.step s ps k hi
      have hcl := Tk.cnt_le s (Tk.vals (ps.take k)) (Tk.tv s (Tk.vl ps[k]))
      rw [Tk.vals_len, List.length_take] at hcl
      have hl2 : (Tk.vl ps[k]).length = 2 := rfl
      rw [hl2, HW.out] at hval
      have HV : Aside0 (Calls Try.prog 102 #[.slice (some ⟨ps[k].1, 0, none⟩) 2 2, .string wo] wr fun e w2 => e = .returned (.int .i64 (Tk.tv s (Tk.vl ps[k]))) ∧ (Instr.lookup 100 (.map (some w.heap.size)) (.int .i64 (Tk.tv s (Tk.vl ps[k]))) false).run Try.prog w2 = .ok (.int .i64 (Tk.cnt s (Tk.vals (ps.take k)) (Tk.tv s (Tk.vl ps[k])) : Int)) w2 ∧
          ∃ w3, (Instr.mapUpdate 100 (.map (some w.heap.size)) (.int .i64 (Tk.tv s (Tk.vl ps[k]))) (.int .i64 ((Tk.cnt s (Tk.vals (ps.take k)) (Tk.tv s (Tk.vl ps[k])) : Int) + 1))).run Try.prog w2 = .ok () w3 ∧ Aside0 (Mp.MapI Try.prog 3 3 w3 w.heap.size (k + 1) (fun y => (Tk.cnt s (Tk.vals (ps.take (k + 1))) y : Int)) ∧ Below w.heap.size w w3)) := ⟨hval.mono fun e w2 he => by
        obtain ⟨rfl, hd⟩ := he
        have hm2 := HI.out.below hd.below
        have hx := Tk.wf64 (Tk.tv s (Tk.vl ps[k])) (by omega)
        obtain ⟨w3, hup, hm3, hg3⟩ := hm2.put (t := 100) Try.underlying3 Try.underlying3 Try.underlying100 (by unfold maxLen; omega) (Tk.tv s (Tk.vl ps[k])) ((Tk.cnt s (Tk.vals (ps.take k)) (Tk.tv s (Tk.vl ps[k])) : Int) + 1) hx (Tk.wf64 _ (by omega))
        rw [hst] at hm3
        exact ⟨rfl, hm2.look (t := 100) Try.underlying3 Try.underlying3 Try.underlying100 (fun w => by kernel_rfl) _ hx, w3, hup, ⟨hm3, (below_step HB.out hd.below).grown hg3 (by have := HB.out.size; have := hd.below.size; omega) (fun j hj => by cases hj; exact Nat.le_refl _)⟩⟩⟩
      generalize hd : (Tk.cnt s (Tk.vals (ps.take k)) (Tk.tv s (Tk.vl ps[k])) : Int) = d at HV
      have hd0 : 0 ≤ d ∧ d ≤ 2000 := by omega
      obtain ⟨hd1, hd2⟩ := hd0
      generalize Tk.tv s (Tk.vl ps[k]) = x at HV
      unfold Tk.cv at hcell
      clear hst hcl hval htv hbd hH hl2 hd ev
      go_wp2_with (go_at_call 102; refine HV.out.mono ?_; rintro e w2 ⟨rfl, hlk, w3, hup, H3⟩; clear HV)
      go_roundg (ps.length - (k + 1))
      case measure => omega
      case rel => exact ⟨k + 1, by go_num, by omega, Nat.le_refl _, ⟨H3.out.1⟩, ⟨H3.out.2⟩⟩
    · have hkz : ¬ (k : Int) < (ps.length : Int) := by omega
      obtain rfl : k = ps.length := by omega
      go_wp2
      go_ret
      exact ⟨_, rfl, by have := HI.out; rwa [List.take_length] at this, Nat.le_refl _, HB.out⟩

end Go.Proofs.Ytlkbphhmahipdaa.P
namespace Go.Proofs.Ytlkbphhmahipdaa.P
open Go.RowKit Go.Proofs.YtlkbphhmahipdaaW.PrintWords Go.Proofs.YtlkbphhmahipdaaW.PrintLast Go.Proofs.YtlkbphhmahipdaaW.PrintMore
attribute [local go_sem] max2_int min2_int max_two min_two max_three min_three max_four min_four   -- for this text's walks alone
set_option linter.unusedVariables false
set_option linter.unusedSimpArgs false

/-! ### slices_IndexFunc_int_int: function 124, by hand -/
-- IMPORT Derived.Test.YtlkbphhmahipdaaHlp
-- IMPORT Derived.Test.YtlkbphhmahipdaaTk
-- IMPORT Derived.Shelf.Abstract
set_option maxHeartbeats 2000000 in
/-- slices.IndexFunc at rows of pairs, whatever predicate makes no more than new blocks. -/
theorem slices_IndexFunc_PP.any (p : Tk.PP → Bool) (g : Nat) (lb : Array Value) (eg : ∀ args w, (callFunc g args).run Try.prog w = .ok (.enter g args) w) (A0 : Option Addr) (c0 : Nat) (l0 : List Tk.PP) (w : World) (hr0 : ∀ i, (hi : i < l0.length) → ∃ ad, A0 = some ad ∧ w.cell? (ad.add i) = some (Tk.cv l0[i])) (hlen : l0.length ≤ 9223372036854775807)
    (hp : ∀ x, x ∈ l0 → ∀ W, Below w.heap.size w W → Calls Try.prog g (#[Tk.cv x] ++ lb) W fun e w' => e = .returned (.bool (p x)) ∧ Below W.heap.size W w') :
    Calls Try.prog 124 #[.slice A0 l0.length c0, .func (.func g) #[] lb] w fun e w' => e = .returned (.int .i64 (Hlp.fidx p l0)) ∧ Below w.heap.size w w' := by
  have HR : Aside0 _ := ⟨hr0⟩
  have HP : Aside0 _ := ⟨hp⟩
  clear hr0 hp
  go_enter Try.func124, Try.ntmps124
  go_wp2
  go_loopg [5, 8] l0.length (fun gg _ s8 wr => ∃ kk : Nat, kk ≤ l0.length ∧ l0.length - kk ≤ gg ∧ s8 = .int .i64 kk ∧ Aside0 (Below w.heap.size w wr) ∧ Aside0 (∀ j, (hj : j < kk) → (hl : j < l0.length) → p l0[j] = false))
  case atStart => exact ⟨0, Nat.zero_le _, by omega, rfl, ⟨Below.refl _ _⟩, ⟨fun j hj => absurd hj (Nat.not_lt_zero _)⟩⟩
  case round =>
    obtain ⟨kk, hkk, hg, rfl, B, A⟩ := hrel
    by_cases hlt : kk < l0.length
    · have hltz : (kk : Int) < (l0.length : Int) := by omega
      obtain ⟨ad, HA, hcell0⟩ := HR.out kk hlt
      subst HA
      have hcell : wr.cell? (ad.add kk) = some (Tk.cv l0[kk]) := pw_cell_below B.out hcell0
      clear hcell0
      have hcall := HP.out l0[kk] (List.getElem_mem hlt) wr B.out
      have Y : Aside0 (∀ j, (hj : j < kk) → (hl : j < l0.length) → p l0[j] = false) := A
      generalize hy : l0[kk] = y at hcell hcall
      have C : Aside0 (l0[kk] = y) := ⟨hy⟩
      clear hy
      cases hq : p y with
      | true =>
        rw [hq] at hcall
        have Q : Aside0 (p y = true) := ⟨hq⟩
        clear hq
        go_wp2_with (go_at_fn g; refine hcall.mono ?_; rintro e w' ⟨rfl, hb⟩; have HB : Aside0 (Below wr.heap.size wr w') := ⟨hb⟩; clear hb)
        go_ret
        refine ⟨?_, below_then B.out B.out.size HB.out⟩
        rw [Hlp.fidx_hit p l0 kk hlt (by rw [C.out]; exact Q.out) (fun j hj => A.out j hj (by omega))]
        rfl
      | false =>
        rw [hq] at hcall
        have Q : Aside0 (p y = false) := ⟨hq⟩
        clear hq
        go_wp2_with (go_at_fn g; refine hcall.mono ?_; rintro e w' ⟨rfl, hb⟩; have HB : Aside0 (Below wr.heap.size wr w') := ⟨hb⟩; clear hb)
        go_roundg (l0.length - (kk + 1))
        case measure => omega
        case rel =>
          refine ⟨kk + 1, by omega, by omega, by go_num, ⟨below_then B.out B.out.size HB.out⟩, ⟨fun j hj hl => ?_⟩⟩
          by_cases e : j = kk
          · subst e
            rw [C.out]; exact Q.out
          · exact A.out j (by omega) hl
    · have hltz : ¬ (kk : Int) < (l0.length : Int) := by omega
      have hkn : kk = l0.length := by omega
      have HK : Aside0 (kk = l0.length) := ⟨hkn⟩
      clear hkn
      go_wp2
      go_ret
      refine ⟨?_, B.out⟩
      rw [Hlp.fidx_miss p l0 (fun j hj => A.out j (by have := HK.out; omega) hj)]
      rfl

end Go.Proofs.Ytlkbphhmahipdaa.P
namespace Go.Proofs.Ytlkbphhmahipdaa.P
open Go.RowKit Go.Proofs.YtlkbphhmahipdaaW.PrintWords Go.Proofs.YtlkbphhmahipdaaW.PrintLast Go.Proofs.YtlkbphhmahipdaaW.PrintMore
attribute [local go_sem] max2_int min2_int max_two min_two max_three min_three max_four min_four   -- for this text's walks alone
set_option linter.unusedVariables false
set_option linter.unusedSimpArgs false

/-! ### slices_DeleteFunc_int_int: function 111, by hand -/
-- IMPORT Derived.Test.YtlkbphhmahipdaaHlp
-- IMPORT Derived.Test.YtlkbphhmahipdaaTk
-- IMPORT Derived.Shelf.Abstract
-- IMPORT Derived.Lib.SliceRun
set_option maxHeartbeats 4000000 in
/-- slices.DeleteFunc at rows of pairs, on a row of the caller's own: what is left is in front, in order; whatever predicate makes no more than new blocks. -/
theorem slices_DeleteFunc_PP.any (p : Tk.PP → Bool) (g : Nat) (lb : Array Value) (eg : ∀ args w, (callFunc g args).run Try.prog w = .ok (.enter g args) w) (base gb cap : Nat) (l : List Tk.PP) (w : World)
    (ho : w.ownsRow base 36 1 (.slice (some ⟨gb, 0, none⟩) l.length cap) l.length (l.map Tk.cv))
    (hp : ∀ x, x ∈ l → ∀ W, w.grownBy W (some gb) → Calls Try.prog g (#[Tk.cv x] ++ lb) W fun e w' => e = .returned (.bool (p x)) ∧ Below W.heap.size W w') :
    Calls Try.prog 111 #[.slice (some ⟨gb, 0, none⟩) l.length cap, .func (.func g) #[] lb] w fun e w' =>
      e = .returned (.slice (some ⟨gb, 0, none⟩) (l.filter fun x => !p x).length cap) ∧ w'.ownsRow base 36 1 (.slice (some ⟨gb, 0, none⟩) (l.filter fun x => !p x).length cap) (l.filter fun x => !p x).length ((l.filter fun x => !p x).map Tk.cv) ∧ w.grownBy w' (some gb) := by
  have hcap := Tk.own_cap ho
  have hlen : l.length ≤ 9223372036854775807 := Nat.le_trans hcap.1 hcap.2.1
  have hr0 : ∀ i, (hi : i < l.length) → ∃ ad : Addr, some (⟨gb, 0, none⟩ : Addr) = some ad ∧ w.cell? (ad.add i) = some (Tk.cv l[i]) := fun i hi => ⟨_, rfl, by rw [add_plain]; exact (Tk.own_atP ho i hi).1⟩
  have hcon := slices_IndexFunc_PP.any p g lb eg (some ⟨gb, 0, none⟩) cap l w hr0 hlen (fun x hx W hW => hp x hx W (grown_of_below hW _))
  have z3 : ∀ w, (zeroValue 36).run Try.prog w = .ok (.slice none 0 0) w := Try.zeroValue36
  have HCON : Aside0 _ := ⟨hcon⟩
  have HO : Aside0 _ := ⟨ho⟩
  have HP : Aside0 _ := ⟨hp⟩
  clear hcon ho hp hr0 hcap
  cases hfi : l.findIdx? p with
  | none =>
    have hall : (l.filter fun x => !p x) = l := by
      rw [List.filter_eq_self]
      intro x hx
      simp [List.findIdx?_eq_none_iff.1 hfi x hx]
    have hf : Hlp.fidx p l = -1 := by unfold Hlp.fidx; rw [hfi]
    rw [hf] at HCON
    rw [hall]
    clear hall hf hfi
    go_enter Try.func111, Try.ntmps111
    go_wp2_with (go_at_call 124; refine HCON.out.mono ?_; rintro e w1 ⟨rfl, hb⟩; have HB : Aside0 (Below w.heap.size w w1) := ⟨hb⟩; clear hb)
    go_ret
    exact ⟨rfl, pw_own_below HO.out HB.out, grown_of_below HB.out _⟩
  | some k0 =>
    obtain ⟨hk0, hpk, hbef⟩ := List.findIdx?_eq_some_iff_getElem.1 hfi
    have hf : Hlp.fidx p l = (k0 : Int) := by unfold Hlp.fidx; rw [hfi]
    rw [hf] at HCON
    have hne1 : ((k0 : Int) == -1) = false := beq_eq_false_iff_ne.2 (by omega)
    have hstart : l.take k0 = (l.take (k0 + 1)).filter fun x => !p x := by
      rw [List.take_succ_eq_append_getElem hk0, List.filter_append]
      have h1 : (l.take k0).filter (fun x => !p x) = l.take k0 := by
        rw [List.filter_eq_self]
        intro x hx
        obtain ⟨j, hj, rfl⟩ := List.mem_iff_getElem.1 hx
        rw [List.length_take] at hj
        rw [List.getElem_take]
        have := hbef j (by omega)
        simpa using this
      rw [h1]
      simp [hpk]
    have ST : Aside0 _ := ⟨hstart⟩
    clear hf hfi hpk hbef hstart
    go_enter Try.func111, Try.ntmps111
    go_wp2_with (go_at_call 124; refine HCON.out.mono ?_; rintro e w1 ⟨rfl, hb⟩; have HB : Aside0 (Below w.heap.size w w1) := ⟨hb⟩; clear hb)
    go_loopg [5, 6, 7] l.length (fun gg s5 s6 _ wr => ∃ (i j : Nat) (dk : List Tk.PP), s5 = .int .i64 i ∧ s6 = .int .i64 j ∧ i < j ∧ j ≤ l.length ∧ l.length - j ≤ gg ∧ dk.length = l.length ∧
      Aside0 (wr.ownsRow base 36 1 (.slice (some ⟨gb, 0, none⟩) l.length cap) l.length (dk.map Tk.cv)) ∧ Aside0 (w.grownBy wr (some gb)) ∧ Aside0 (dk.take i = (l.take j).filter fun x => !p x) ∧ Aside0 (dk.drop j = l.drop j))
    case atStart => exact ⟨k0, k0 + 1, l, rfl, by go_num, by omega, by omega, by omega, rfl, ⟨pw_own_below HO.out HB.out⟩, ⟨grown_of_below HB.out _⟩, ⟨ST.out⟩, ⟨rfl⟩⟩
    case round =>
      obtain ⟨i, j, dk, rfl, rfl, hij, hjd, hgg, hdl, O, G, T, D⟩ := hrel
      have DL : Aside0 (dk.length = l.length) := ⟨hdl⟩
      clear hdl
      by_cases hlt : j < l.length
      · have hltz : (j : Int) < (l.length : Int) := by omega
        have hj2 : j < dk.length := by rw [DL.out]; exact hlt
        have hdj : dk[j] = l[j] := by
          have := congrArg (fun x => x[0]?) D.out
          simpa [List.getElem?_eq_getElem hj2, List.getElem?_eq_getElem hlt] using this
        have hi2 : i < dk.length := by rw [DL.out]; omega
        have cj : wr.cell? ⟨gb, j, none⟩ = some (Tk.cv l[j]) := by
          rw [(Tk.own_atP O.out j hj2).1, hdj]
        obtain ⟨old, ci⟩ : ∃ old, wr.cell? ⟨gb, i, none⟩ = some (Tk.cv old) := ⟨_, (Tk.own_atP O.out i hi2).1⟩
        have fi : wr.frozen? ⟨gb, i, none⟩ = false := (Tk.own_atP O.out i hi2).2
        have IL : Aside0 (i < dk.length) := ⟨hi2⟩
        clear hi2
        have hcall := HP.out l[j] (List.getElem_mem hlt) wr G.out
        have TJ : Aside0 (l.take (j + 1) = l.take j ++ [l[j]]) := ⟨List.take_succ_eq_append_getElem hlt⟩
        have DJ : Aside0 (dk.drop (j + 1) = l.drop (j + 1)) := ⟨by
          have := congrArg (List.drop 1) D.out
          simpa [List.drop_drop, Nat.add_comm] using this⟩
        clear hdj hj2
        generalize l[j] = y at cj hcall TJ
        unfold Tk.cv at cj hcall ci
        cases hq : p y with
        | false =>
          rw [hq] at hcall
          have Q : Aside0 (p y = false) := ⟨hq⟩
          clear hq
          go_wp2_with (go_at_fn g; refine hcall.mono ?_; rintro e w2 ⟨rfl, hb⟩; have HB2 : Aside0 (Below wr.heap.size wr w2) := ⟨hb⟩; have ci2 : w2.cell? ⟨gb, i, none⟩ = some (.slice (some ⟨old.1, 0, none⟩) 2 2) := pw_cell_below hb ci; have fi2 : w2.frozen? ⟨gb, i, none⟩ = false := (Tk.own_atP (pw_own_below O.out hb) i IL.out).2; clear hb ci fi cj)
          go_roundg (l.length - (j + 1))
          case measure => omega
          case rel =>
            have h1 := Tk.own_storeP (pw_own_below O.out HB2.out) i y
            refine ⟨i + 1, j + 1, dk.set i y, by go_num, by go_num, by omega, by omega, Nat.le_refl _, by rw [List.length_set]; exact DL.out, ⟨h1.1⟩, ⟨World.grownBy.trans G.out (World.grownBy.trans (grown_of_below HB2.out _) h1.2)⟩, ⟨?_⟩, ⟨?_⟩⟩
            · have hi2 : i < dk.length := by rw [DL.out]; omega
              rw [List.take_succ_eq_append_getElem (by rw [List.length_set]; exact hi2), List.getElem_set_self, List.take_set_of_le (Nat.le_refl _), T.out, TJ.out, List.filter_append]
              simp [Q.out]
            · rw [List.drop_set_of_lt (by omega)]
              exact DJ.out
        | true =>
          rw [hq] at hcall
          have Q : Aside0 (p y = true) := ⟨hq⟩
          clear hq ci fi
          go_wp2_with (go_at_fn g; refine hcall.mono ?_; rintro e w2 ⟨rfl, hb⟩; have HB2 : Aside0 (Below wr.heap.size wr w2) := ⟨hb⟩; clear hb cj)
          go_roundg (l.length - (j + 1))
          case measure => omega
          case rel =>
            refine ⟨i, j + 1, dk, rfl, by go_num, by omega, by omega, Nat.le_refl _, DL.out, ⟨pw_own_below O.out HB2.out⟩, ⟨World.grownBy.trans G.out (grown_of_below HB2.out _)⟩, ⟨?_⟩, ⟨DJ.out⟩⟩
            rw [T.out, TJ.out, List.filter_append]
            simp [Q.out]
      · obtain rfl : j = l.length := by omega
        have hltz : ¬ (l.length : Int) < (l.length : Int) := by omega
        have hcl : ∀ ty, (Builtin.clear_ #[25] ty #[.slice (some ⟨gb, i, none⟩) (l.length - i) (cap - i)]).run Try.prog wr = .ok (.tuple #[]) (wr.setCells gb i (List.replicate (l.length - i) (.slice none 0 0))) :=
          fun ty => Lib.run_clear_slice wr _ _ ty _ Try.underlying25 z3 (by kernel_rfl) (by kernel_rfl) gb i _ _ (by omega)
            (fun t ht => by
              have hx := (Tk.own_atP O.out (i + t) (by have := DL.out; omega)).1
              rw [hx, Option.isSome_some])
            (fun t ht => (Tk.own_atP O.out (i + t) (by have := DL.out; omega)).2)
        have hroom : l.length ≤ cap := by
          rcases O.out.2 with ⟨h3, _⟩ | ⟨g', cap', cur, h3, _, _, h4, _⟩
          · cases h3
          · injection h3 with _ _ h9
            omega
        have hcz : (i : Int) ≤ (cap : Int) := by omega
        have hiz : (i : Int) ≤ (l.length : Int) := by omega
        go_wp2
        go_ret
        have hfin := Hlp.own_cleared (List.replicate (l.length - i) (.slice none 0 0)) O.out (show i ≤ l.length by omega)
        have e1 : (l.filter fun x => !p x) = dk.take i := by rw [T.out, List.take_length]
        have e2 : (dk.take i).length = i := by rw [List.length_take, DL.out]; omega
        have e3 : (dk.map Tk.cv).take i = (dk.take i).map Tk.cv := by simp [List.map_take]
        rw [e1, e2, ← e3]
        exact ⟨rfl, hfin.1, World.grownBy.trans G.out hfin.2⟩
set_option maxHeartbeats 1000000 in
/-- The same at a row that may be nil. -/
theorem slices_DeleteFunc_PP.row (p : Tk.PP → Bool) (g : Nat) (lb : Array Value) (eg : ∀ args w, (callFunc g args).run Try.prog w = .ok (.enter g args) w) (base : Nat) (v : Value) (l : List Tk.PP) (w : World)
    (ho : w.ownsRow base 36 1 v l.length (l.map Tk.cv))
    (hp : ∀ x, x ∈ l → ∀ W, w.grownBy W v.ownBlock → Calls Try.prog g (#[Tk.cv x] ++ lb) W fun e w' => e = .returned (.bool (p x)) ∧ Below W.heap.size W w') :
    Calls Try.prog 111 #[v, .func (.func g) #[] lb] w fun e w' =>
      ∃ v' : Value, e = .returned v' ∧ w'.ownsRow base 36 1 v' (l.filter fun x => !p x).length ((l.filter fun x => !p x).map Tk.cv) ∧ w.grownBy w' v.ownBlock := by
  rcases ho.2 with ⟨rfl, h0⟩ | ⟨gb, cap, cur, rfl, _⟩
  · obtain rfl : l = [] := List.eq_nil_of_length_eq_zero h0
    have hcon := slices_IndexFunc_PP.any p g lb eg none 0 [] w (fun i hi => absurd hi (Nat.not_lt_zero i)) (by simp) (fun x hx => by cases hx)
    have hf : Hlp.fidx p [] = -1 := rfl
    rw [hf] at hcon
    have HCON : Aside0 _ := ⟨hcon⟩
    clear hcon hp ho h0 hf
    go_enter Try.func111, Try.ntmps111
    go_wp2_with (go_at_call 124; refine HCON.out.mono ?_; rintro e w1 ⟨rfl, hb⟩; have HB : Aside0 (Below w.heap.size w w1) := ⟨hb⟩; clear hb)
    go_ret
    exact ⟨_, rfl, own_nil _ _ _ _, grown_of_below HB.out _⟩
  · exact (slices_DeleteFunc_PP.any p g lb eg base gb cap l w ho hp).mono fun e w' h => ⟨_, h.1, h.2.1, h.2.2⟩

end Go.Proofs.Ytlkbphhmahipdaa.P
