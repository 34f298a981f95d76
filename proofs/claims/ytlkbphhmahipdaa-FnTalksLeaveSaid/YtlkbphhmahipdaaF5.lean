/- Calls of the functions of the given program return what the plain Lean functions of the same names return; and a row of a law out of its pure statement. Written by a program of this session out of the translation; Lean checks it. No condition. -/
import Derived.Test.YtlkbphhmahipdaaPx0
import Derived.Test.YtlkbphhmahipdaaPx31
import Derived.Test.YtlkbphhmahipdaaF0
import Derived.Test.YtlkbphhmahipdaaF2
import Derived.Test.YtlkbphhmahipdaaF1
import Derived.Test.YtlkbphhmahipdaaTs
import Derived.BigQuiet
namespace Go.Proofs.Ytlkbphhmahipdaa.P
open Go.RowKit Go.Proofs.YtlkbphhmahipdaaW.PrintWords Go.Proofs.YtlkbphhmahipdaaW.PrintLast Go.Proofs.YtlkbphhmahipdaaW.PrintMore
attribute [local go_sem] max2_int min2_int max_two min_two max_three min_three max_four min_four   -- for this text's walks alone
set_option linter.unusedVariables false
set_option linter.unusedSimpArgs false

/-! ### laws_gRows: function 58 -/
def laws_gRows.l0 : Nat → List (List Int) → List (List Int) → Int → Int → Option (Bool)
  | 0, _, _, _, _ => none
  | k + 1, x0, x1, x12, x13 => if x13 < x12 then (if 0 ≤ x13 then (if x13 < (x0.length : Int) then (if x13 < (x1.length : Int) then ((laws_gSame.f k (rd_L1 x0 x13) (rd_L1 x1 x13)).bind fun t220 => (if t220 = true then (laws_gRows.l0 k x0 x1 x12 (wrap64 (x13 + 1))) else (some false))) else (none)) else (none)) else (none)) else (some true)
def laws_gRows.f (k : Nat) (l0 : List (List Int)) (l1 : List (List Int)) : Option (Bool) := if (l0.length : Int) = (l1.length : Int) then (laws_gRows.l0 k l0 l1 (l0.length : Int) 0) else (some false)
theorem laws_gRows.mono_l : ∀ k, (∀ y0 y1 y2 y3, LeO (laws_gRows.l0 k y0 y1 y2 y3) (laws_gRows.l0 (k + 1) y0 y1 y2 y3))
  | 0 => fun _ _ _ _ r h => by simp [laws_gRows.l0] at h
  | k + 1 => by
    have ih0 := laws_gRows.mono_l k
    · intro y0 y1 y2 y3
      unfold laws_gRows.l0
      repeat' first
      | (with_reducible exact ih0 _ _ _ _)
      | (with_reducible exact laws_gSame.mono _ _ _)
      | (with_reducible exact LeO.refl _)
      | (with_reducible exact LeO.none _)
      | (with_reducible refine LeO.ite ?_ ?_)
      | (with_reducible refine LeO.bind ?_ (fun _ => ?_))
      | exact ih0 _ _ _ _
      | exact laws_gSame.mono _ _ _
      | exact LeO.none _
      | refine LeO.ite ?_ ?_
      | refine LeO.bind ?_ (fun _ => ?_)
theorem laws_gRows.mono : ∀ a0 a1 k, LeO (laws_gRows.f k a0 a1) (laws_gRows.f (k + 1) a0 a1) := by
  intro a0 a1 k
  have ih0 := laws_gRows.mono_l k
  unfold laws_gRows.f
  repeat' first
      | (with_reducible exact ih0 _ _ _ _)
      | (with_reducible exact laws_gSame.mono _ _ _)
      | (with_reducible exact LeO.refl _)
      | (with_reducible exact LeO.none _)
      | (with_reducible refine LeO.ite ?_ ?_)
      | (with_reducible refine LeO.bind ?_ (fun _ => ?_))
      | exact ih0 _ _ _ _
      | exact laws_gSame.mono _ _ _
      | exact LeO.none _
      | refine LeO.ite ?_ ?_
      | refine LeO.bind ?_ (fun _ => ?_)
set_option maxHeartbeats 8000000 in
set_option maxRecDepth 100000 in
theorem laws_gRows.calls (k : Nat) (A0 : Option Addr) (c0 : Nat) (l0 : List (List Int)) (A1 : Option Addr) (c1 : Nat) (l1 : List (List Int)) (r : Bool) (w : World) (hr0 : Kd.C (Kd.slice 3 (Kd.int .i64)) w A0 l0.length l0) (hc0 : l0.length ≤ c0) (hr1 : Kd.C (Kd.slice 3 (Kd.int .i64)) w A1 l1.length l1) (hc1 : l1.length ≤ c1) (h : laws_gRows.f k l0 l1 = some r) :
    Calls Try.prog 58 #[.slice A0 l0.length c0, .slice A1 l1.length c1] w fun e w' => e = .returned (.bool r) ∧ Drawn0 w w' := by
  have HR0 := Aside0.mk hr0
  have HC0 := Aside0.mk hc0
  clear hr0 hc0
  have HR1 := Aside0.mk hr1
  have HC1 := Aside0.mk hc1
  clear hr1 hc1
  have H : (if (l0.length : Int) = (l1.length : Int) then (laws_gRows.l0 k l0 l1 (l0.length : Int) 0) else (some false)) = some r := h
  clear h
  by_cases c3 : (l0.length : Int) = (l1.length : Int)
  · rw [if_pos c3] at H
    have c3b0 : ((l0.length : Int) == (l1.length : Int)) = true := beq_iff_eq.mpr c3
    have c3b1 : ((l0.length : Int) != (l1.length : Int)) = false := bne_eq_false_iff_eq.mpr c3
    have c3b2 : (l0.length == l1.length) = true := by first | simpa using c3 | (simp at c3 ⊢; omega)
    clear c3
    have H' := Aside0.mk H
    clear H
    go_enter Try.func58, Try.ntmps58
    go_wp2
    repeat (go_quiet (fail); try go_wp2)
    go_loopg [13] k (fun kq v13 w' => ∃ (x13_1 : Int), v13 = .int .i64 x13_1 ∧ Aside0 (laws_gRows.l0 kq l0 l1 (l0.length : Int) x13_1 = some r) ∧ Aside0 (kq ≤ k) ∧ Drawn0 w w')
    case atStart => exact ⟨(0), (by first | rfl | (simp; done) | (simp [*]; done)), H', ⟨Nat.le_refl _⟩, by repeat (first | exact Drawn0.refl _ | apply Drawn0.step)⟩
    case round =>
      clear H'
      try clear c1
      try clear p2
      try clear c3
      try clear c3b0
      try clear c3b1
      try clear c3b2
      obtain ⟨x13_1, rfl, HA, HK1, ⟨m1, rfl⟩⟩ := hrel
      cases gk with
      | zero => exact absurd HA.out (by simp [laws_gRows.l0])
      | succ k1 =>
        have H := HA.out
        clear HA
        simp only [laws_gRows.l0] at H
        by_cases c4 : x13_1 < (l0.length : Int)
        · rw [if_pos c4] at H
          have c4b0 : decide (x13_1 < (l0.length : Int)) = true := decide_eq_true c4
          clear c4
          by_cases c5 : 0 ≤ x13_1
          · rw [if_pos c5] at H
            have c5b0 : decide (0 ≤ x13_1) = true := decide_eq_true c5
            clear c5
            by_cases c6 : x13_1 < (l0.length : Int)
            · rw [if_pos c6] at H
              have c6b0 : decide (x13_1 < (l0.length : Int)) = true := decide_eq_true c6
              clear c6
              by_cases c7 : x13_1 < (l1.length : Int)
              · rw [if_pos c7] at H
                have c7b0 : decide (x13_1 < (l1.length : Int)) = true := decide_eq_true c7
                clear c7
                replace H := Option.bind_eq_some_iff.mp H
                obtain ⟨t220, A80, H⟩ := H
                replace H : (if t220 = true then (laws_gRows.l0 k1 l0 l1 (l0.length : Int) (wrap64 (x13_1 + 1))) else (some false)) = some r := H
                have A8 := Aside0.mk A80
                clear A80
                by_cases c9 : t220 = true
                · subst c9
                  have H1 : (laws_gRows.l0 k1 l0 l1 (l0.length : Int) (wrap64 (x13_1 + 1))) = some r := by rw [if_pos rfl] at H; exact H
                  clear H
                  have H := H1
                  clear H1
                  have H' := Aside0.mk H
                  clear H
                  have p218 : 0 ≤ (x13_1 : Int) := of_decide_eq_true (by first | (with_reducible assumption) | assumption)
                  have q218 : x13_1 < (l0.length : Int) := of_decide_eq_true (by first | (with_reducible assumption) | assumption)
                  obtain ⟨ad218, A218_0, c218_0, e218, hx218_0, hl218_0, hi218_0⟩ := at_L1 HR0.out x13_1 p218 q218
                  cases e218
                  have HR218_0 := Aside0.mk hi218_0
                  have HC218_0 := Aside0.mk hl218_0
                  clear hi218_0 hl218_0
                  replace p218 := eq_true p218
                  replace q218 := eq_true q218
                  have p219 : 0 ≤ (x13_1 : Int) := of_decide_eq_true (by first | (with_reducible assumption) | assumption)
                  have q219 : x13_1 < (l1.length : Int) := of_decide_eq_true (by first | (with_reducible assumption) | assumption)
                  obtain ⟨ad219, A219_0, c219_0, e219, hx219_0, hl219_0, hi219_0⟩ := at_L1 HR1.out x13_1 p219 q219
                  cases e219
                  have HR219_0 := Aside0.mk hi219_0
                  have HC219_0 := Aside0.mk hl219_0
                  clear hi219_0 hl219_0
                  replace p219 := eq_true p219
                  replace q219 := eq_true q219
                  go_wp2_with (first | (go_at_call 48; (with_reducible refine (laws_gSame.calls k1 _ _ (rd_L1 l0 x13_1) _ _ (rd_L1 l1 x13_1) true _ ?side1 ?side2 ?side3 ?side4 A8.out).mono ?_); (case side1 => repeat (first | exact HR218_0.out | (with_reducible refine Kd.C_alloc ?_ _) | (with_reducible refine Kd.C_drewN ?_ _) | (with_reducible refine Kd.C_drew ?_))); (case side2 => exact HC218_0.out); (case side3 => repeat (first | exact HR219_0.out | (with_reducible refine Kd.C_alloc ?_ _) | (with_reducible refine Kd.C_drewN ?_ _) | (with_reducible refine Kd.C_drew ?_))); (case side4 => exact HC219_0.out); rintro e w' ⟨rfl, ⟨nd, rfl⟩⟩; (try first | exact ⟨rfl, _, World.drewN_drewN _ _ _⟩ | exact ⟨rfl, _, Eq.trans (World.drewN_drewN _ _ _) (congrArg (World.drewN _) (Nat.add_assoc _ _ _))⟩)))
                  repeat (go_quiet (first | (go_at_call 48; (with_reducible refine (laws_gSame.calls k1 _ _ (rd_L1 l0 x13_1) _ _ (rd_L1 l1 x13_1) true _ ?side1 ?side2 ?side3 ?side4 A8.out).mono ?_); (case side1 => repeat (first | exact HR218_0.out | (with_reducible refine Kd.C_alloc ?_ _) | (with_reducible refine Kd.C_drewN ?_ _) | (with_reducible refine Kd.C_drew ?_))); (case side2 => exact HC218_0.out); (case side3 => repeat (first | exact HR219_0.out | (with_reducible refine Kd.C_alloc ?_ _) | (with_reducible refine Kd.C_drewN ?_ _) | (with_reducible refine Kd.C_drew ?_))); (case side4 => exact HC219_0.out); rintro e w' ⟨rfl, ⟨nd, rfl⟩⟩; (try first | exact ⟨rfl, _, World.drewN_drewN _ _ _⟩ | exact ⟨rfl, _, Eq.trans (World.drewN_drewN _ _ _) (congrArg (World.drewN _) (Nat.add_assoc _ _ _))⟩))); try go_wp2_with (first | (go_at_call 48; (with_reducible refine (laws_gSame.calls k1 _ _ (rd_L1 l0 x13_1) _ _ (rd_L1 l1 x13_1) true _ ?side1 ?side2 ?side3 ?side4 A8.out).mono ?_); (case side1 => repeat (first | exact HR218_0.out | (with_reducible refine Kd.C_alloc ?_ _) | (with_reducible refine Kd.C_drewN ?_ _) | (with_reducible refine Kd.C_drew ?_))); (case side2 => exact HC218_0.out); (case side3 => repeat (first | exact HR219_0.out | (with_reducible refine Kd.C_alloc ?_ _) | (with_reducible refine Kd.C_drewN ?_ _) | (with_reducible refine Kd.C_drew ?_))); (case side4 => exact HC219_0.out); rintro e w' ⟨rfl, ⟨nd, rfl⟩⟩; (try first | exact ⟨rfl, _, World.drewN_drewN _ _ _⟩ | exact ⟨rfl, _, Eq.trans (World.drewN_drewN _ _ _) (congrArg (World.drewN _) (Nat.add_assoc _ _ _))⟩))))
                  go_roundg k1
                  case measure => have := HK1.out; omega
                  case rel => exact ⟨(wrap64 (x13_1 + 1)), (by first | rfl | (simp; done) | (simp [*]; done)), H', ⟨by have := HK1.out; omega⟩, by repeat (first | exact Drawn0.refl _ | apply Drawn0.step)⟩
                · replace c9 := Bool.eq_false_iff.mpr c9
                  subst c9
                  have H1 : (some false) = some r := by rw [if_neg (show ¬ (false = true) by decide)] at H; exact H
                  clear H
                  have H := H1
                  clear H1
                  obtain rfl := Option.some.inj H
                  have p218 : 0 ≤ (x13_1 : Int) := of_decide_eq_true (by first | (with_reducible assumption) | assumption)
                  have q218 : x13_1 < (l0.length : Int) := of_decide_eq_true (by first | (with_reducible assumption) | assumption)
                  obtain ⟨ad218, A218_0, c218_0, e218, hx218_0, hl218_0, hi218_0⟩ := at_L1 HR0.out x13_1 p218 q218
                  cases e218
                  have HR218_0 := Aside0.mk hi218_0
                  have HC218_0 := Aside0.mk hl218_0
                  clear hi218_0 hl218_0
                  replace p218 := eq_true p218
                  replace q218 := eq_true q218
                  have p219 : 0 ≤ (x13_1 : Int) := of_decide_eq_true (by first | (with_reducible assumption) | assumption)
                  have q219 : x13_1 < (l1.length : Int) := of_decide_eq_true (by first | (with_reducible assumption) | assumption)
                  obtain ⟨ad219, A219_0, c219_0, e219, hx219_0, hl219_0, hi219_0⟩ := at_L1 HR1.out x13_1 p219 q219
                  cases e219
                  have HR219_0 := Aside0.mk hi219_0
                  have HC219_0 := Aside0.mk hl219_0
                  clear hi219_0 hl219_0
                  replace p219 := eq_true p219
                  replace q219 := eq_true q219
                  go_wp2_with (first | (go_at_call 48; (with_reducible refine (laws_gSame.calls k1 _ _ (rd_L1 l0 x13_1) _ _ (rd_L1 l1 x13_1) false _ ?side1 ?side2 ?side3 ?side4 A8.out).mono ?_); (case side1 => repeat (first | exact HR218_0.out | (with_reducible refine Kd.C_alloc ?_ _) | (with_reducible refine Kd.C_drewN ?_ _) | (with_reducible refine Kd.C_drew ?_))); (case side2 => exact HC218_0.out); (case side3 => repeat (first | exact HR219_0.out | (with_reducible refine Kd.C_alloc ?_ _) | (with_reducible refine Kd.C_drewN ?_ _) | (with_reducible refine Kd.C_drew ?_))); (case side4 => exact HC219_0.out); rintro e w' ⟨rfl, ⟨nd, rfl⟩⟩; (try first | exact ⟨rfl, _, World.drewN_drewN _ _ _⟩ | exact ⟨rfl, _, Eq.trans (World.drewN_drewN _ _ _) (congrArg (World.drewN _) (Nat.add_assoc _ _ _))⟩)))
                  repeat (go_quiet (first | (go_at_call 48; (with_reducible refine (laws_gSame.calls k1 _ _ (rd_L1 l0 x13_1) _ _ (rd_L1 l1 x13_1) false _ ?side1 ?side2 ?side3 ?side4 A8.out).mono ?_); (case side1 => repeat (first | exact HR218_0.out | (with_reducible refine Kd.C_alloc ?_ _) | (with_reducible refine Kd.C_drewN ?_ _) | (with_reducible refine Kd.C_drew ?_))); (case side2 => exact HC218_0.out); (case side3 => repeat (first | exact HR219_0.out | (with_reducible refine Kd.C_alloc ?_ _) | (with_reducible refine Kd.C_drewN ?_ _) | (with_reducible refine Kd.C_drew ?_))); (case side4 => exact HC219_0.out); rintro e w' ⟨rfl, ⟨nd, rfl⟩⟩; (try first | exact ⟨rfl, _, World.drewN_drewN _ _ _⟩ | exact ⟨rfl, _, Eq.trans (World.drewN_drewN _ _ _) (congrArg (World.drewN _) (Nat.add_assoc _ _ _))⟩))); try go_wp2_with (first | (go_at_call 48; (with_reducible refine (laws_gSame.calls k1 _ _ (rd_L1 l0 x13_1) _ _ (rd_L1 l1 x13_1) false _ ?side1 ?side2 ?side3 ?side4 A8.out).mono ?_); (case side1 => repeat (first | exact HR218_0.out | (with_reducible refine Kd.C_alloc ?_ _) | (with_reducible refine Kd.C_drewN ?_ _) | (with_reducible refine Kd.C_drew ?_))); (case side2 => exact HC218_0.out); (case side3 => repeat (first | exact HR219_0.out | (with_reducible refine Kd.C_alloc ?_ _) | (with_reducible refine Kd.C_drewN ?_ _) | (with_reducible refine Kd.C_drew ?_))); (case side4 => exact HC219_0.out); rintro e w' ⟨rfl, ⟨nd, rfl⟩⟩; (try first | exact ⟨rfl, _, World.drewN_drewN _ _ _⟩ | exact ⟨rfl, _, Eq.trans (World.drewN_drewN _ _ _) (congrArg (World.drewN _) (Nat.add_assoc _ _ _))⟩))))
                  go_ret
                  exact ⟨by first | rfl | (simp; done) | (simp [*]; done), by repeat (first | exact Drawn0.refl _ | apply Drawn0.step)⟩
              · rw [if_neg c7] at H
                exact absurd H (by simp)
            · rw [if_neg c6] at H
              exact absurd H (by simp)
          · rw [if_neg c5] at H
            exact absurd H (by simp)
        · rw [if_neg c4] at H
          have c4b0 : decide (x13_1 < (l0.length : Int)) = false := decide_eq_false c4
          clear c4
          obtain rfl := Option.some.inj H
          go_wp2
          repeat (go_quiet (fail); try go_wp2)
          go_ret
          exact ⟨by first | rfl | (simp; done) | (simp [*]; done), by repeat (first | exact Drawn0.refl _ | apply Drawn0.step)⟩
  · rw [if_neg c3] at H
    have c3b0 : ((l0.length : Int) == (l1.length : Int)) = false := beq_eq_false_iff_ne.mpr c3
    have c3b1 : ((l0.length : Int) != (l1.length : Int)) = true := bne_iff_ne.mpr c3
    have c3b2 : (l0.length == l1.length) = false := by first | simpa using c3 | (simp at c3 ⊢; omega)
    obtain rfl := Option.some.inj H
    go_enter Try.func58, Try.ntmps58
    go_wp2
    repeat (go_quiet (fail); try go_wp2)
    go_ret
    exact ⟨by first | rfl | (simp; done) | (simp [*]; done), by repeat (first | exact Drawn0.refl _ | apply Drawn0.step)⟩

/-! ### laws_gTexts: function 59 -/
def laws_gTexts.l0 : Nat → List ByteArray → List ByteArray → Int → Int → Option (Bool)
  | 0, _, _, _, _ => none
  | k + 1, x0, x1, x12, x13 => if x13 < x12 then (if 0 ≤ x13 then (if x13 < (x0.length : Int) then (if x13 < (x1.length : Int) then (if (rdOf ByteArray.empty x0 x13).toList = (rdOf ByteArray.empty x1 x13).toList then (laws_gTexts.l0 k x0 x1 x12 (wrap64 (x13 + 1))) else (some false)) else (none)) else (none)) else (none)) else (some true)
def laws_gTexts.f (k : Nat) (l0 : List ByteArray) (l1 : List ByteArray) : Option (Bool) := if (l0.length : Int) = (l1.length : Int) then (laws_gTexts.l0 k l0 l1 (l0.length : Int) 0) else (some false)
theorem laws_gTexts.mono_l : ∀ k, (∀ y0 y1 y2 y3, LeO (laws_gTexts.l0 k y0 y1 y2 y3) (laws_gTexts.l0 (k + 1) y0 y1 y2 y3))
  | 0 => fun _ _ _ _ r h => by simp [laws_gTexts.l0] at h
  | k + 1 => by
    have ih0 := laws_gTexts.mono_l k
    · intro y0 y1 y2 y3
      unfold laws_gTexts.l0
      repeat' first
      | (with_reducible exact ih0 _ _ _ _)
      | (with_reducible exact LeO.refl _)
      | (with_reducible exact LeO.none _)
      | (with_reducible refine LeO.ite ?_ ?_)
      | (with_reducible refine LeO.bind ?_ (fun _ => ?_))
      | exact ih0 _ _ _ _
      | exact LeO.none _
      | refine LeO.ite ?_ ?_
      | refine LeO.bind ?_ (fun _ => ?_)
theorem laws_gTexts.mono : ∀ a0 a1 k, LeO (laws_gTexts.f k a0 a1) (laws_gTexts.f (k + 1) a0 a1) := by
  intro a0 a1 k
  have ih0 := laws_gTexts.mono_l k
  unfold laws_gTexts.f
  repeat' first
      | (with_reducible exact ih0 _ _ _ _)
      | (with_reducible exact LeO.refl _)
      | (with_reducible exact LeO.none _)
      | (with_reducible refine LeO.ite ?_ ?_)
      | (with_reducible refine LeO.bind ?_ (fun _ => ?_))
      | exact ih0 _ _ _ _
      | exact LeO.none _
      | refine LeO.ite ?_ ?_
      | refine LeO.bind ?_ (fun _ => ?_)
set_option maxHeartbeats 8000000 in
set_option maxRecDepth 100000 in
theorem laws_gTexts.calls (k : Nat) (A0 : Option Addr) (c0 : Nat) (l0 : List ByteArray) (A1 : Option Addr) (c1 : Nat) (l1 : List ByteArray) (r : Bool) (w : World) (hr0 : Kd.C Kd.string w A0 l0.length l0) (hc0 : l0.length ≤ c0) (hr1 : Kd.C Kd.string w A1 l1.length l1) (hc1 : l1.length ≤ c1) (h : laws_gTexts.f k l0 l1 = some r) :
    Calls Try.prog 59 #[.slice A0 l0.length c0, .slice A1 l1.length c1] w fun e w' => e = .returned (.bool r) ∧ Drawn0 w w' := by
  have HR0 := Aside0.mk hr0
  have HC0 := Aside0.mk hc0
  clear hr0 hc0
  have HR1 := Aside0.mk hr1
  have HC1 := Aside0.mk hc1
  clear hr1 hc1
  have H : (if (l0.length : Int) = (l1.length : Int) then (laws_gTexts.l0 k l0 l1 (l0.length : Int) 0) else (some false)) = some r := h
  clear h
  by_cases c3 : (l0.length : Int) = (l1.length : Int)
  · rw [if_pos c3] at H
    have c3b0 : ((l0.length : Int) == (l1.length : Int)) = true := beq_iff_eq.mpr c3
    have c3b1 : ((l0.length : Int) != (l1.length : Int)) = false := bne_eq_false_iff_eq.mpr c3
    have c3b2 : (l0.length == l1.length) = true := by first | simpa using c3 | (simp at c3 ⊢; omega)
    clear c3
    have H' := Aside0.mk H
    clear H
    go_enter Try.func59, Try.ntmps59
    go_wp2
    repeat (go_quiet (fail); try go_wp2)
    go_loopg [13] k (fun kq v13 w' => ∃ (x13_1 : Int), v13 = .int .i64 x13_1 ∧ Aside0 (laws_gTexts.l0 kq l0 l1 (l0.length : Int) x13_1 = some r) ∧ Aside0 (kq ≤ k) ∧ Drawn0 w w')
    case atStart => exact ⟨(0), (by first | rfl | (simp; done) | (simp [*]; done)), H', ⟨Nat.le_refl _⟩, by repeat (first | exact Drawn0.refl _ | apply Drawn0.step)⟩
    case round =>
      clear H'
      try clear c1
      try clear p2
      try clear c3
      try clear c3b0
      try clear c3b1
      try clear c3b2
      obtain ⟨x13_1, rfl, HA, HK1, ⟨m1, rfl⟩⟩ := hrel
      cases gk with
      | zero => exact absurd HA.out (by simp [laws_gTexts.l0])
      | succ k1 =>
        have H := HA.out
        clear HA
        simp only [laws_gTexts.l0] at H
        by_cases c4 : x13_1 < (l0.length : Int)
        · rw [if_pos c4] at H
          have c4b0 : decide (x13_1 < (l0.length : Int)) = true := decide_eq_true c4
          clear c4
          by_cases c5 : 0 ≤ x13_1
          · rw [if_pos c5] at H
            have c5b0 : decide (0 ≤ x13_1) = true := decide_eq_true c5
            clear c5
            by_cases c6 : x13_1 < (l0.length : Int)
            · rw [if_pos c6] at H
              have c6b0 : decide (x13_1 < (l0.length : Int)) = true := decide_eq_true c6
              clear c6
              by_cases c7 : x13_1 < (l1.length : Int)
              · rw [if_pos c7] at H
                have c7b0 : decide (x13_1 < (l1.length : Int)) = true := decide_eq_true c7
                clear c7
                by_cases c8 : (rdOf ByteArray.empty l0 x13_1).toList = (rdOf ByteArray.empty l1 x13_1).toList
                · rw [if_pos c8] at H
                  have c8b0 : ((rdOf ByteArray.empty l0 x13_1).toList == (rdOf ByteArray.empty l1 x13_1).toList) = true := beq_iff_eq.mpr c8
                  have c8b1 : ((rdOf ByteArray.empty l0 x13_1).toList != (rdOf ByteArray.empty l1 x13_1).toList) = false := bne_eq_false_iff_eq.mpr c8
                  clear c8
                  have H' := Aside0.mk H
                  clear H
                  have p221 : 0 ≤ (x13_1 : Int) := of_decide_eq_true (by first | (with_reducible assumption) | assumption)
                  have q221 : x13_1 < (l0.length : Int) := of_decide_eq_true (by first | (with_reducible assumption) | assumption)
                  obtain ⟨ad221, e221, hx221_0⟩ := Kd.at_string HR0.out x13_1 p221 q221
                  cases e221
                  replace p221 := eq_true p221
                  replace q221 := eq_true q221
                  have p222 : 0 ≤ (x13_1 : Int) := of_decide_eq_true (by first | (with_reducible assumption) | assumption)
                  have q222 : x13_1 < (l1.length : Int) := of_decide_eq_true (by first | (with_reducible assumption) | assumption)
                  obtain ⟨ad222, e222, hx222_0⟩ := Kd.at_string HR1.out x13_1 p222 q222
                  cases e222
                  replace p222 := eq_true p222
                  replace q222 := eq_true q222
                  go_wp2
                  repeat (go_quiet (fail); try go_wp2)
                  go_roundg k1
                  case measure => have := HK1.out; omega
                  case rel => exact ⟨(wrap64 (x13_1 + 1)), (by first | rfl | (simp; done) | (simp [*]; done)), H', ⟨by have := HK1.out; omega⟩, by repeat (first | exact Drawn0.refl _ | apply Drawn0.step)⟩
                · rw [if_neg c8] at H
                  have c8b0 : ((rdOf ByteArray.empty l0 x13_1).toList == (rdOf ByteArray.empty l1 x13_1).toList) = false := beq_eq_false_iff_ne.mpr c8
                  have c8b1 : ((rdOf ByteArray.empty l0 x13_1).toList != (rdOf ByteArray.empty l1 x13_1).toList) = true := bne_iff_ne.mpr c8
                  obtain rfl := Option.some.inj H
                  have p221 : 0 ≤ (x13_1 : Int) := of_decide_eq_true (by first | (with_reducible assumption) | assumption)
                  have q221 : x13_1 < (l0.length : Int) := of_decide_eq_true (by first | (with_reducible assumption) | assumption)
                  obtain ⟨ad221, e221, hx221_0⟩ := Kd.at_string HR0.out x13_1 p221 q221
                  cases e221
                  replace p221 := eq_true p221
                  replace q221 := eq_true q221
                  have p222 : 0 ≤ (x13_1 : Int) := of_decide_eq_true (by first | (with_reducible assumption) | assumption)
                  have q222 : x13_1 < (l1.length : Int) := of_decide_eq_true (by first | (with_reducible assumption) | assumption)
                  obtain ⟨ad222, e222, hx222_0⟩ := Kd.at_string HR1.out x13_1 p222 q222
                  cases e222
                  replace p222 := eq_true p222
                  replace q222 := eq_true q222
                  go_wp2
                  repeat (go_quiet (fail); try go_wp2)
                  go_ret
                  exact ⟨by first | rfl | (simp; done) | (simp [*]; done), by repeat (first | exact Drawn0.refl _ | apply Drawn0.step)⟩
              · rw [if_neg c7] at H
                exact absurd H (by simp)
            · rw [if_neg c6] at H
              exact absurd H (by simp)
          · rw [if_neg c5] at H
            exact absurd H (by simp)
        · rw [if_neg c4] at H
          have c4b0 : decide (x13_1 < (l0.length : Int)) = false := decide_eq_false c4
          clear c4
          obtain rfl := Option.some.inj H
          go_wp2
          repeat (go_quiet (fail); try go_wp2)
          go_ret
          exact ⟨by first | rfl | (simp; done) | (simp [*]; done), by repeat (first | exact Drawn0.refl _ | apply Drawn0.step)⟩
  · rw [if_neg c3] at H
    have c3b0 : ((l0.length : Int) == (l1.length : Int)) = false := beq_eq_false_iff_ne.mpr c3
    have c3b1 : ((l0.length : Int) != (l1.length : Int)) = true := bne_iff_ne.mpr c3
    have c3b2 : (l0.length == l1.length) = false := by first | simpa using c3 | (simp at c3 ⊢; omega)
    obtain rfl := Option.some.inj H
    go_enter Try.func59, Try.ntmps59
    go_wp2
    repeat (go_quiet (fail); try go_wp2)
    go_ret
    exact ⟨by first | rfl | (simp; done) | (simp [*]; done), by repeat (first | exact Drawn0.refl _ | apply Drawn0.step)⟩

/-! ### laws_gPairs: function 60 -/
def laws_gPairs.l0 : Nat → List (List Int) → List (List Int) → Int → Int → Option (Bool)
  | 0, _, _, _, _ => none
  | k + 1, x0, x5, x6, x7 => if x7 < x6 then (if 0 ≤ x7 then (if x7 < (x5.length : Int) then (if ((rd_L1 x5 x7).length : Int) = 2 then (if x7 > 0 then (if 0 ≤ (wrap64 (x7 - 1)) then (if (wrap64 (x7 - 1)) < (x0.length : Int) then (if 0 < ((rd_L1 x0 (wrap64 (x7 - 1))).length : Int) then (if 0 < ((rd_L1 x5 x7).length : Int) then (if (rd (rd_L1 x0 (wrap64 (x7 - 1))) 0) > (rd (rd_L1 x5 x7) 0) then (some false) else (if (rd (rd_L1 x0 (wrap64 (x7 - 1))) 0) = (rd (rd_L1 x5 x7) 0) then (if 1 < ((rd_L1 x0 (wrap64 (x7 - 1))).length : Int) then (if 1 < ((rd_L1 x5 x7).length : Int) then (if (rd (rd_L1 x0 (wrap64 (x7 - 1))) 1) ≥ (rd (rd_L1 x5 x7) 1) then (some false) else (laws_gPairs.l0 k x0 x5 x6 (wrap64 (x7 + 1)))) else (none)) else (none)) else (laws_gPairs.l0 k x0 x5 x6 (wrap64 (x7 + 1))))) else (none)) else (none)) else (none)) else (none)) else (laws_gPairs.l0 k x0 x5 x6 (wrap64 (x7 + 1)))) else (some false)) else (none)) else (none)) else (some true)
def laws_gPairs.f (k : Nat) (l0 : List (List Int)) : Option (Bool) := laws_gPairs.l0 k l0 l0 (l0.length : Int) 0
theorem laws_gPairs.mono_l : ∀ k, (∀ y0 y1 y2 y3, LeO (laws_gPairs.l0 k y0 y1 y2 y3) (laws_gPairs.l0 (k + 1) y0 y1 y2 y3))
  | 0 => fun _ _ _ _ r h => by simp [laws_gPairs.l0] at h
  | k + 1 => by
    have ih0 := laws_gPairs.mono_l k
    · intro y0 y1 y2 y3
      unfold laws_gPairs.l0
      repeat' first
      | (with_reducible exact ih0 _ _ _ _)
      | (with_reducible exact LeO.refl _)
      | (with_reducible exact LeO.none _)
      | (with_reducible refine LeO.ite ?_ ?_)
      | (with_reducible refine LeO.bind ?_ (fun _ => ?_))
      | exact ih0 _ _ _ _
      | exact LeO.none _
      | refine LeO.ite ?_ ?_
      | refine LeO.bind ?_ (fun _ => ?_)
theorem laws_gPairs.mono : ∀ a0 k, LeO (laws_gPairs.f k a0) (laws_gPairs.f (k + 1) a0) := by
  intro a0 k
  have ih0 := laws_gPairs.mono_l k
  unfold laws_gPairs.f
  repeat' first
      | (with_reducible exact ih0 _ _ _ _)
      | (with_reducible exact LeO.refl _)
      | (with_reducible exact LeO.none _)
      | (with_reducible refine LeO.ite ?_ ?_)
      | (with_reducible refine LeO.bind ?_ (fun _ => ?_))
      | exact ih0 _ _ _ _
      | exact LeO.none _
      | refine LeO.ite ?_ ?_
      | refine LeO.bind ?_ (fun _ => ?_)
set_option maxHeartbeats 8000000 in
set_option maxRecDepth 100000 in
theorem laws_gPairs.calls (k : Nat) (A0 : Option Addr) (c0 : Nat) (l0 : List (List Int)) (r : Bool) (w : World) (hr0 : Kd.C (Kd.slice 3 (Kd.int .i64)) w A0 l0.length l0) (hc0 : l0.length ≤ c0) (h : laws_gPairs.f k l0 = some r) :
    Calls Try.prog 60 #[.slice A0 l0.length c0] w fun e w' => e = .returned (.bool r) ∧ Drawn0 w w' := by
  have HR0 := Aside0.mk hr0
  have HC0 := Aside0.mk hc0
  clear hr0 hc0
  have H : (laws_gPairs.l0 k l0 l0 (l0.length : Int) 0) = some r := h
  clear h
  have H' := Aside0.mk H
  clear H
  go_enter Try.func60, Try.ntmps60
  go_wp2
  repeat (go_quiet (fail); try go_wp2)
  go_loopg [7] k (fun kq v7 w' => ∃ (x7_1 : Int), v7 = .int .i64 x7_1 ∧ Aside0 (laws_gPairs.l0 kq l0 l0 (l0.length : Int) x7_1 = some r) ∧ Aside0 (kq ≤ k) ∧ Drawn0 w w')
  case atStart => exact ⟨(0), (by first | rfl | (simp; done) | (simp [*]; done)), H', ⟨Nat.le_refl _⟩, by repeat (first | exact Drawn0.refl _ | apply Drawn0.step)⟩
  case round =>
    clear H'
    obtain ⟨x7_1, rfl, HA, HK1, ⟨m1, rfl⟩⟩ := hrel
    cases gk with
    | zero => exact absurd HA.out (by simp [laws_gPairs.l0])
    | succ k1 =>
      have H := HA.out
      clear HA
      simp only [laws_gPairs.l0] at H
      by_cases c2 : x7_1 < (l0.length : Int)
      · rw [if_pos c2] at H
        have c2b0 : decide (x7_1 < (l0.length : Int)) = true := decide_eq_true c2
        clear c2
        by_cases c3 : 0 ≤ x7_1
        · rw [if_pos c3] at H
          have c3b0 : decide (0 ≤ x7_1) = true := decide_eq_true c3
          clear c3
          by_cases c4 : x7_1 < (l0.length : Int)
          · rw [if_pos c4] at H
            have c4b0 : decide (x7_1 < (l0.length : Int)) = true := decide_eq_true c4
            clear c4
            by_cases c5 : ((rd_L1 l0 x7_1).length : Int) = 2
            · rw [if_pos c5] at H
              have c5b0 : (((rd_L1 l0 x7_1).length : Int) == 2) = true := beq_iff_eq.mpr c5
              have c5b1 : (((rd_L1 l0 x7_1).length : Int) != 2) = false := bne_eq_false_iff_eq.mpr c5
              clear c5
              by_cases c6 : x7_1 > 0
              · rw [if_pos c6] at H
                have c6b0 : decide (0 < x7_1) = true := decide_eq_true c6
                clear c6
                obtain ⟨ji7, hji7⟩ : ∃ j_ : Int, (wrap64 (x7_1 - 1)) = j_ := ⟨_, rfl⟩
                replace H : (if 0 ≤ (ji7) then (if (ji7) < (l0.length : Int) then (if 0 < ((rd_L1 l0 (ji7)).length : Int) then (if 0 < ((rd_L1 l0 x7_1).length : Int) then (if (rd (rd_L1 l0 (ji7)) 0) > (rd (rd_L1 l0 x7_1) 0) then (some false) else (if (rd (rd_L1 l0 (ji7)) 0) = (rd (rd_L1 l0 x7_1) 0) then (if 1 < ((rd_L1 l0 (ji7)).length : Int) then (if 1 < ((rd_L1 l0 x7_1).length : Int) then (if (rd (rd_L1 l0 (ji7)) 1) ≥ (rd (rd_L1 l0 x7_1) 1) then (some false) else (laws_gPairs.l0 k1 l0 l0 (l0.length : Int) (wrap64 (x7_1 + 1)))) else (none)) else (none)) else (laws_gPairs.l0 k1 l0 l0 (l0.length : Int) (wrap64 (x7_1 + 1))))) else (none)) else (none)) else (none)) else (none)) = some r := by first | (rw [hji7] at H; exact H) | (simp only [hji7] at H ⊢; exact H)
                have hji7w : (IntKind.i64.wrap (x7_1 - 1)) = ji7 := (i64_w _).trans hji7
                by_cases c8 : 0 ≤ (ji7)
                · rw [if_pos c8] at H
                  have c8b0 : decide (0 ≤ (ji7)) = true := decide_eq_true c8
                  clear c8
                  by_cases c9 : (ji7) < (l0.length : Int)
                  · rw [if_pos c9] at H
                    have c9b0 : decide ((ji7) < (l0.length : Int)) = true := decide_eq_true c9
                    clear c9
                    by_cases c10 : 0 < ((rd_L1 l0 (ji7)).length : Int)
                    · rw [if_pos c10] at H
                      have c10b0 : decide (0 < ((rd_L1 l0 (ji7)).length : Int)) = true := decide_eq_true c10
                      have c10b1 : decide (0 < (rd_L1 l0 (ji7)).length) = true := decide_eq_true (by omega)
                      clear c10
                      by_cases c11 : 0 < ((rd_L1 l0 x7_1).length : Int)
                      · rw [if_pos c11] at H
                        have c11b0 : decide (0 < ((rd_L1 l0 x7_1).length : Int)) = true := decide_eq_true c11
                        have c11b1 : decide (0 < (rd_L1 l0 x7_1).length) = true := decide_eq_true (by omega)
                        clear c11
                        by_cases c12 : (rd (rd_L1 l0 (ji7)) 0) > (rd (rd_L1 l0 x7_1) 0)
                        · rw [if_pos c12] at H
                          have c12b0 : decide ((rd (rd_L1 l0 x7_1) 0) < (rd (rd_L1 l0 (ji7)) 0)) = true := decide_eq_true c12
                          clear c12
                          obtain rfl := Option.some.inj H
                          have p223 : 0 ≤ (x7_1 : Int) := of_decide_eq_true (by first | (with_reducible assumption) | assumption)
                          have q223 : x7_1 < (l0.length : Int) := of_decide_eq_true (by first | (with_reducible assumption) | assumption)
                          obtain ⟨ad223, A223_0, c223_0, e223, hx223_0, hl223_0, hi223_0⟩ := at_L1 HR0.out x7_1 p223 q223
                          cases e223
                          have HR223_0 := Aside0.mk hi223_0
                          have HC223_0 := Aside0.mk hl223_0
                          clear hi223_0 hl223_0
                          replace p223 := eq_true p223
                          replace q223 := eq_true q223
                          have p224 : 0 ≤ ((ji7) : Int) := of_decide_eq_true (by first | (with_reducible assumption) | assumption)
                          have q224 : (ji7) < (l0.length : Int) := of_decide_eq_true (by first | (with_reducible assumption) | assumption)
                          obtain ⟨ad224, A224_0, c224_0, e224, hx224_0, hl224_0, hi224_0⟩ := at_L1 HR0.out (ji7) p224 q224
                          obtain rfl : ad223 = ad224 := (by injection e224)
                          have HR224_0 := Aside0.mk hi224_0
                          have HC224_0 := Aside0.mk hl224_0
                          clear hi224_0 hl224_0
                          replace p224 := eq_true p224
                          replace q224 := eq_true q224
                          have p225 : 0 ≤ (0 : Int) := (by omega)
                          have q225 : 0 < ((rd_L1 l0 (ji7)).length : Int) := of_decide_eq_true (by first | (with_reducible assumption) | assumption)
                          obtain ⟨ad225, e225, hx225_0⟩ := Kd.at_int HR224_0.out 0 p225 q225
                          cases e225
                          have qi225 : (0 < (rd_L1 l0 (ji7)).length) = True := eq_true (by omega)
                          (try rw [show ((0 : Int)).toNat = 0 from rfl] at hx225_0)
                          (try rw [Addr.add_zero'] at hx225_0)
                          replace p225 := eq_true p225
                          replace q225 := eq_true q225
                          have p226 : 0 ≤ (0 : Int) := (by omega)
                          have q226 : 0 < ((rd_L1 l0 x7_1).length : Int) := of_decide_eq_true (by first | (with_reducible assumption) | assumption)
                          obtain ⟨ad226, e226, hx226_0⟩ := Kd.at_int HR223_0.out 0 p226 q226
                          cases e226
                          have qi226 : (0 < (rd_L1 l0 x7_1).length) = True := eq_true (by omega)
                          (try rw [show ((0 : Int)).toNat = 0 from rfl] at hx226_0)
                          (try rw [Addr.add_zero'] at hx226_0)
                          replace p226 := eq_true p226
                          replace q226 := eq_true q226
                          go_wp2
                          repeat (go_quiet (fail); try go_wp2)
                          go_ret
                          exact ⟨by first | rfl | (simp; done) | (simp only [← hji7] <;> (first | rfl | simp)) | (simp [*]; done), by repeat (first | exact Drawn0.refl _ | apply Drawn0.step)⟩
                        · rw [if_neg c12] at H
                          have c12b0 : decide ((rd (rd_L1 l0 x7_1) 0) < (rd (rd_L1 l0 (ji7)) 0)) = false := decide_eq_false c12
                          clear c12
                          by_cases c13 : (rd (rd_L1 l0 (ji7)) 0) = (rd (rd_L1 l0 x7_1) 0)
                          · rw [if_pos c13] at H
                            have c13b0 : ((rd (rd_L1 l0 (ji7)) 0) == (rd (rd_L1 l0 x7_1) 0)) = true := beq_iff_eq.mpr c13
                            have c13b1 : ((rd (rd_L1 l0 (ji7)) 0) != (rd (rd_L1 l0 x7_1) 0)) = false := bne_eq_false_iff_eq.mpr c13
                            clear c13
                            by_cases c14 : 1 < ((rd_L1 l0 (ji7)).length : Int)
                            · rw [if_pos c14] at H
                              have c14b0 : decide (1 < ((rd_L1 l0 (ji7)).length : Int)) = true := decide_eq_true c14
                              have c14b1 : decide (1 < (rd_L1 l0 (ji7)).length) = true := decide_eq_true (by omega)
                              clear c14
                              by_cases c15 : 1 < ((rd_L1 l0 x7_1).length : Int)
                              · rw [if_pos c15] at H
                                have c15b0 : decide (1 < ((rd_L1 l0 x7_1).length : Int)) = true := decide_eq_true c15
                                have c15b1 : decide (1 < (rd_L1 l0 x7_1).length) = true := decide_eq_true (by omega)
                                clear c15
                                by_cases c16 : (rd (rd_L1 l0 (ji7)) 1) ≥ (rd (rd_L1 l0 x7_1) 1)
                                · rw [if_pos c16] at H
                                  have c16b0 : decide ((rd (rd_L1 l0 x7_1) 1) ≤ (rd (rd_L1 l0 (ji7)) 1)) = true := decide_eq_true c16
                                  clear c16
                                  obtain rfl := Option.some.inj H
                                  have p223 : 0 ≤ (x7_1 : Int) := of_decide_eq_true (by first | (with_reducible assumption) | assumption)
                                  have q223 : x7_1 < (l0.length : Int) := of_decide_eq_true (by first | (with_reducible assumption) | assumption)
                                  obtain ⟨ad223, A223_0, c223_0, e223, hx223_0, hl223_0, hi223_0⟩ := at_L1 HR0.out x7_1 p223 q223
                                  cases e223
                                  have HR223_0 := Aside0.mk hi223_0
                                  have HC223_0 := Aside0.mk hl223_0
                                  clear hi223_0 hl223_0
                                  replace p223 := eq_true p223
                                  replace q223 := eq_true q223
                                  have p224 : 0 ≤ ((ji7) : Int) := of_decide_eq_true (by first | (with_reducible assumption) | assumption)
                                  have q224 : (ji7) < (l0.length : Int) := of_decide_eq_true (by first | (with_reducible assumption) | assumption)
                                  obtain ⟨ad224, A224_0, c224_0, e224, hx224_0, hl224_0, hi224_0⟩ := at_L1 HR0.out (ji7) p224 q224
                                  obtain rfl : ad223 = ad224 := (by injection e224)
                                  have HR224_0 := Aside0.mk hi224_0
                                  have HC224_0 := Aside0.mk hl224_0
                                  clear hi224_0 hl224_0
                                  replace p224 := eq_true p224
                                  replace q224 := eq_true q224
                                  have p225 : 0 ≤ (0 : Int) := (by omega)
                                  have q225 : 0 < ((rd_L1 l0 (ji7)).length : Int) := of_decide_eq_true (by first | (with_reducible assumption) | assumption)
                                  obtain ⟨ad225, e225, hx225_0⟩ := Kd.at_int HR224_0.out 0 p225 q225
                                  cases e225
                                  have qi225 : (0 < (rd_L1 l0 (ji7)).length) = True := eq_true (by omega)
                                  (try rw [show ((0 : Int)).toNat = 0 from rfl] at hx225_0)
                                  (try rw [Addr.add_zero'] at hx225_0)
                                  replace p225 := eq_true p225
                                  replace q225 := eq_true q225
                                  have p226 : 0 ≤ (0 : Int) := (by omega)
                                  have q226 : 0 < ((rd_L1 l0 x7_1).length : Int) := of_decide_eq_true (by first | (with_reducible assumption) | assumption)
                                  obtain ⟨ad226, e226, hx226_0⟩ := Kd.at_int HR223_0.out 0 p226 q226
                                  cases e226
                                  have qi226 : (0 < (rd_L1 l0 x7_1).length) = True := eq_true (by omega)
                                  (try rw [show ((0 : Int)).toNat = 0 from rfl] at hx226_0)
                                  (try rw [Addr.add_zero'] at hx226_0)
                                  replace p226 := eq_true p226
                                  replace q226 := eq_true q226
                                  have p227 : 0 ≤ ((ji7) : Int) := of_decide_eq_true (by first | (with_reducible assumption) | assumption)
                                  have q227 : (ji7) < (l0.length : Int) := of_decide_eq_true (by first | (with_reducible assumption) | assumption)
                                  obtain ⟨ad227, A227_0, c227_0, e227, hx227_0, hl227_0, hi227_0⟩ := at_L1 HR0.out (ji7) p227 q227
                                  obtain rfl : ad223 = ad227 := (by injection e227)
                                  have HR227_0 := Aside0.mk hi227_0
                                  have HC227_0 := Aside0.mk hl227_0
                                  clear hi227_0 hl227_0
                                  replace p227 := eq_true p227
                                  replace q227 := eq_true q227
                                  have ea_ := Option.some.inj (hx224_0.symm.trans hx227_0)
                                  injection ea_ with ea_ en_ ec_
                                  subst ea_
                                  subst ec_
                                  clear en_
                                  have p228 : 0 ≤ (0 : Int) := (by omega)
                                  have q228 : 0 < ((rd_L1 l0 (ji7)).length : Int) := of_decide_eq_true (by first | (with_reducible assumption) | assumption)
                                  obtain ⟨ad228, e228, hx228_0⟩ := Kd.at_int HR227_0.out 0 p228 q228
                                  cases e228
                                  have qi228 : (0 < (rd_L1 l0 (ji7)).length) = True := eq_true (by omega)
                                  (try rw [show ((0 : Int)).toNat = 0 from rfl] at hx228_0)
                                  (try rw [Addr.add_zero'] at hx228_0)
                                  replace p228 := eq_true p228
                                  replace q228 := eq_true q228
                                  have p229 : 0 ≤ (0 : Int) := (by omega)
                                  have q229 : 0 < ((rd_L1 l0 x7_1).length : Int) := of_decide_eq_true (by first | (with_reducible assumption) | assumption)
                                  obtain ⟨ad229, e229, hx229_0⟩ := Kd.at_int HR223_0.out 0 p229 q229
                                  obtain rfl : ad226 = ad229 := (by injection e229)
                                  have qi229 : (0 < (rd_L1 l0 x7_1).length) = True := eq_true (by omega)
                                  (try rw [show ((0 : Int)).toNat = 0 from rfl] at hx229_0)
                                  (try rw [Addr.add_zero'] at hx229_0)
                                  replace p229 := eq_true p229
                                  replace q229 := eq_true q229
                                  have p230 : 0 ≤ ((ji7) : Int) := of_decide_eq_true (by first | (with_reducible assumption) | assumption)
                                  have q230 : (ji7) < (l0.length : Int) := of_decide_eq_true (by first | (with_reducible assumption) | assumption)
                                  obtain ⟨ad230, A230_0, c230_0, e230, hx230_0, hl230_0, hi230_0⟩ := at_L1 HR0.out (ji7) p230 q230
                                  obtain rfl : ad223 = ad230 := (by injection e230)
                                  have HR230_0 := Aside0.mk hi230_0
                                  have HC230_0 := Aside0.mk hl230_0
                                  clear hi230_0 hl230_0
                                  replace p230 := eq_true p230
                                  replace q230 := eq_true q230
                                  have ea_ := Option.some.inj (hx224_0.symm.trans hx230_0)
                                  injection ea_ with ea_ en_ ec_
                                  subst ea_
                                  subst ec_
                                  clear en_
                                  have p231 : 0 ≤ (1 : Int) := (by omega)
                                  have q231 : 1 < ((rd_L1 l0 (ji7)).length : Int) := of_decide_eq_true (by first | (with_reducible assumption) | assumption)
                                  obtain ⟨ad231, e231, hx231_0⟩ := Kd.at_int HR230_0.out 1 p231 q231
                                  cases e231
                                  (try simp only [show (1 : Int).toNat = 1 from rfl, Nat.reduceMul, Nat.reduceEqDiff, Go.Addr.add, ↓reduceIte] at hx231_0)
                                  have qi231 : (1 < (rd_L1 l0 (ji7)).length) = True := eq_true (by omega)
                                  (try rw [show ((1 : Int)).toNat = 1 from rfl] at hx231_0)
                                  replace p231 := eq_true p231
                                  replace q231 := eq_true q231
                                  have p232 : 0 ≤ (1 : Int) := (by omega)
                                  have q232 : 1 < ((rd_L1 l0 x7_1).length : Int) := of_decide_eq_true (by first | (with_reducible assumption) | assumption)
                                  obtain ⟨ad232, e232, hx232_0⟩ := Kd.at_int HR223_0.out 1 p232 q232
                                  obtain rfl : ad226 = ad232 := (by injection e232)
                                  (try simp only [show (1 : Int).toNat = 1 from rfl, Nat.reduceMul, Nat.reduceEqDiff, Go.Addr.add, ↓reduceIte] at hx232_0)
                                  have qi232 : (1 < (rd_L1 l0 x7_1).length) = True := eq_true (by omega)
                                  (try rw [show ((1 : Int)).toNat = 1 from rfl] at hx232_0)
                                  replace p232 := eq_true p232
                                  replace q232 := eq_true q232
                                  go_wp2
                                  repeat (go_quiet (fail); try go_wp2)
                                  go_ret
                                  exact ⟨by first | rfl | (simp; done) | (simp only [← hji7] <;> (first | rfl | simp)) | (simp [*]; done), by repeat (first | exact Drawn0.refl _ | apply Drawn0.step)⟩
                                · rw [if_neg c16] at H
                                  have c16b0 : decide ((rd (rd_L1 l0 x7_1) 1) ≤ (rd (rd_L1 l0 (ji7)) 1)) = false := decide_eq_false c16
                                  clear c16
                                  have H' := Aside0.mk H
                                  clear H
                                  have p223 : 0 ≤ (x7_1 : Int) := of_decide_eq_true (by first | (with_reducible assumption) | assumption)
                                  have q223 : x7_1 < (l0.length : Int) := of_decide_eq_true (by first | (with_reducible assumption) | assumption)
                                  obtain ⟨ad223, A223_0, c223_0, e223, hx223_0, hl223_0, hi223_0⟩ := at_L1 HR0.out x7_1 p223 q223
                                  cases e223
                                  have HR223_0 := Aside0.mk hi223_0
                                  have HC223_0 := Aside0.mk hl223_0
                                  clear hi223_0 hl223_0
                                  replace p223 := eq_true p223
                                  replace q223 := eq_true q223
                                  have p224 : 0 ≤ ((ji7) : Int) := of_decide_eq_true (by first | (with_reducible assumption) | assumption)
                                  have q224 : (ji7) < (l0.length : Int) := of_decide_eq_true (by first | (with_reducible assumption) | assumption)
                                  obtain ⟨ad224, A224_0, c224_0, e224, hx224_0, hl224_0, hi224_0⟩ := at_L1 HR0.out (ji7) p224 q224
                                  obtain rfl : ad223 = ad224 := (by injection e224)
                                  have HR224_0 := Aside0.mk hi224_0
                                  have HC224_0 := Aside0.mk hl224_0
                                  clear hi224_0 hl224_0
                                  replace p224 := eq_true p224
                                  replace q224 := eq_true q224
                                  have p225 : 0 ≤ (0 : Int) := (by omega)
                                  have q225 : 0 < ((rd_L1 l0 (ji7)).length : Int) := of_decide_eq_true (by first | (with_reducible assumption) | assumption)
                                  obtain ⟨ad225, e225, hx225_0⟩ := Kd.at_int HR224_0.out 0 p225 q225
                                  cases e225
                                  have qi225 : (0 < (rd_L1 l0 (ji7)).length) = True := eq_true (by omega)
                                  (try rw [show ((0 : Int)).toNat = 0 from rfl] at hx225_0)
                                  (try rw [Addr.add_zero'] at hx225_0)
                                  replace p225 := eq_true p225
                                  replace q225 := eq_true q225
                                  have p226 : 0 ≤ (0 : Int) := (by omega)
                                  have q226 : 0 < ((rd_L1 l0 x7_1).length : Int) := of_decide_eq_true (by first | (with_reducible assumption) | assumption)
                                  obtain ⟨ad226, e226, hx226_0⟩ := Kd.at_int HR223_0.out 0 p226 q226
                                  cases e226
                                  have qi226 : (0 < (rd_L1 l0 x7_1).length) = True := eq_true (by omega)
                                  (try rw [show ((0 : Int)).toNat = 0 from rfl] at hx226_0)
                                  (try rw [Addr.add_zero'] at hx226_0)
                                  replace p226 := eq_true p226
                                  replace q226 := eq_true q226
                                  have p227 : 0 ≤ ((ji7) : Int) := of_decide_eq_true (by first | (with_reducible assumption) | assumption)
                                  have q227 : (ji7) < (l0.length : Int) := of_decide_eq_true (by first | (with_reducible assumption) | assumption)
                                  obtain ⟨ad227, A227_0, c227_0, e227, hx227_0, hl227_0, hi227_0⟩ := at_L1 HR0.out (ji7) p227 q227
                                  obtain rfl : ad223 = ad227 := (by injection e227)
                                  have HR227_0 := Aside0.mk hi227_0
                                  have HC227_0 := Aside0.mk hl227_0
                                  clear hi227_0 hl227_0
                                  replace p227 := eq_true p227
                                  replace q227 := eq_true q227
                                  have ea_ := Option.some.inj (hx224_0.symm.trans hx227_0)
                                  injection ea_ with ea_ en_ ec_
                                  subst ea_
                                  subst ec_
                                  clear en_
                                  have p228 : 0 ≤ (0 : Int) := (by omega)
                                  have q228 : 0 < ((rd_L1 l0 (ji7)).length : Int) := of_decide_eq_true (by first | (with_reducible assumption) | assumption)
                                  obtain ⟨ad228, e228, hx228_0⟩ := Kd.at_int HR227_0.out 0 p228 q228
                                  cases e228
                                  have qi228 : (0 < (rd_L1 l0 (ji7)).length) = True := eq_true (by omega)
                                  (try rw [show ((0 : Int)).toNat = 0 from rfl] at hx228_0)
                                  (try rw [Addr.add_zero'] at hx228_0)
                                  replace p228 := eq_true p228
                                  replace q228 := eq_true q228
                                  have p229 : 0 ≤ (0 : Int) := (by omega)
                                  have q229 : 0 < ((rd_L1 l0 x7_1).length : Int) := of_decide_eq_true (by first | (with_reducible assumption) | assumption)
                                  obtain ⟨ad229, e229, hx229_0⟩ := Kd.at_int HR223_0.out 0 p229 q229
                                  obtain rfl : ad226 = ad229 := (by injection e229)
                                  have qi229 : (0 < (rd_L1 l0 x7_1).length) = True := eq_true (by omega)
                                  (try rw [show ((0 : Int)).toNat = 0 from rfl] at hx229_0)
                                  (try rw [Addr.add_zero'] at hx229_0)
                                  replace p229 := eq_true p229
                                  replace q229 := eq_true q229
                                  have p230 : 0 ≤ ((ji7) : Int) := of_decide_eq_true (by first | (with_reducible assumption) | assumption)
                                  have q230 : (ji7) < (l0.length : Int) := of_decide_eq_true (by first | (with_reducible assumption) | assumption)
                                  obtain ⟨ad230, A230_0, c230_0, e230, hx230_0, hl230_0, hi230_0⟩ := at_L1 HR0.out (ji7) p230 q230
                                  obtain rfl : ad223 = ad230 := (by injection e230)
                                  have HR230_0 := Aside0.mk hi230_0
                                  have HC230_0 := Aside0.mk hl230_0
                                  clear hi230_0 hl230_0
                                  replace p230 := eq_true p230
                                  replace q230 := eq_true q230
                                  have ea_ := Option.some.inj (hx224_0.symm.trans hx230_0)
                                  injection ea_ with ea_ en_ ec_
                                  subst ea_
                                  subst ec_
                                  clear en_
                                  have p231 : 0 ≤ (1 : Int) := (by omega)
                                  have q231 : 1 < ((rd_L1 l0 (ji7)).length : Int) := of_decide_eq_true (by first | (with_reducible assumption) | assumption)
                                  obtain ⟨ad231, e231, hx231_0⟩ := Kd.at_int HR230_0.out 1 p231 q231
                                  cases e231
                                  (try simp only [show (1 : Int).toNat = 1 from rfl, Nat.reduceMul, Nat.reduceEqDiff, Go.Addr.add, ↓reduceIte] at hx231_0)
                                  have qi231 : (1 < (rd_L1 l0 (ji7)).length) = True := eq_true (by omega)
                                  (try rw [show ((1 : Int)).toNat = 1 from rfl] at hx231_0)
                                  replace p231 := eq_true p231
                                  replace q231 := eq_true q231
                                  have p232 : 0 ≤ (1 : Int) := (by omega)
                                  have q232 : 1 < ((rd_L1 l0 x7_1).length : Int) := of_decide_eq_true (by first | (with_reducible assumption) | assumption)
                                  obtain ⟨ad232, e232, hx232_0⟩ := Kd.at_int HR223_0.out 1 p232 q232
                                  obtain rfl : ad226 = ad232 := (by injection e232)
                                  (try simp only [show (1 : Int).toNat = 1 from rfl, Nat.reduceMul, Nat.reduceEqDiff, Go.Addr.add, ↓reduceIte] at hx232_0)
                                  have qi232 : (1 < (rd_L1 l0 x7_1).length) = True := eq_true (by omega)
                                  (try rw [show ((1 : Int)).toNat = 1 from rfl] at hx232_0)
                                  replace p232 := eq_true p232
                                  replace q232 := eq_true q232
                                  go_wp2
                                  repeat (go_quiet (fail); try go_wp2)
                                  go_roundg k1
                                  case measure => have := HK1.out; omega
                                  case rel => exact ⟨(wrap64 (x7_1 + 1)), (by first | rfl | (simp; done) | (simp [*]; done)), H', ⟨by have := HK1.out; omega⟩, by repeat (first | exact Drawn0.refl _ | apply Drawn0.step)⟩
                              · rw [if_neg c15] at H
                                exact absurd H (by simp)
                            · rw [if_neg c14] at H
                              exact absurd H (by simp)
                          · rw [if_neg c13] at H
                            have c13b0 : ((rd (rd_L1 l0 (ji7)) 0) == (rd (rd_L1 l0 x7_1) 0)) = false := beq_eq_false_iff_ne.mpr c13
                            have c13b1 : ((rd (rd_L1 l0 (ji7)) 0) != (rd (rd_L1 l0 x7_1) 0)) = true := bne_iff_ne.mpr c13
                            have H' := Aside0.mk H
                            clear H
                            have p223 : 0 ≤ (x7_1 : Int) := of_decide_eq_true (by first | (with_reducible assumption) | assumption)
                            have q223 : x7_1 < (l0.length : Int) := of_decide_eq_true (by first | (with_reducible assumption) | assumption)
                            obtain ⟨ad223, A223_0, c223_0, e223, hx223_0, hl223_0, hi223_0⟩ := at_L1 HR0.out x7_1 p223 q223
                            cases e223
                            have HR223_0 := Aside0.mk hi223_0
                            have HC223_0 := Aside0.mk hl223_0
                            clear hi223_0 hl223_0
                            replace p223 := eq_true p223
                            replace q223 := eq_true q223
                            have p224 : 0 ≤ ((ji7) : Int) := of_decide_eq_true (by first | (with_reducible assumption) | assumption)
                            have q224 : (ji7) < (l0.length : Int) := of_decide_eq_true (by first | (with_reducible assumption) | assumption)
                            obtain ⟨ad224, A224_0, c224_0, e224, hx224_0, hl224_0, hi224_0⟩ := at_L1 HR0.out (ji7) p224 q224
                            obtain rfl : ad223 = ad224 := (by injection e224)
                            have HR224_0 := Aside0.mk hi224_0
                            have HC224_0 := Aside0.mk hl224_0
                            clear hi224_0 hl224_0
                            replace p224 := eq_true p224
                            replace q224 := eq_true q224
                            have p225 : 0 ≤ (0 : Int) := (by omega)
                            have q225 : 0 < ((rd_L1 l0 (ji7)).length : Int) := of_decide_eq_true (by first | (with_reducible assumption) | assumption)
                            obtain ⟨ad225, e225, hx225_0⟩ := Kd.at_int HR224_0.out 0 p225 q225
                            cases e225
                            have qi225 : (0 < (rd_L1 l0 (ji7)).length) = True := eq_true (by omega)
                            (try rw [show ((0 : Int)).toNat = 0 from rfl] at hx225_0)
                            (try rw [Addr.add_zero'] at hx225_0)
                            replace p225 := eq_true p225
                            replace q225 := eq_true q225
                            have p226 : 0 ≤ (0 : Int) := (by omega)
                            have q226 : 0 < ((rd_L1 l0 x7_1).length : Int) := of_decide_eq_true (by first | (with_reducible assumption) | assumption)
                            obtain ⟨ad226, e226, hx226_0⟩ := Kd.at_int HR223_0.out 0 p226 q226
                            cases e226
                            have qi226 : (0 < (rd_L1 l0 x7_1).length) = True := eq_true (by omega)
                            (try rw [show ((0 : Int)).toNat = 0 from rfl] at hx226_0)
                            (try rw [Addr.add_zero'] at hx226_0)
                            replace p226 := eq_true p226
                            replace q226 := eq_true q226
                            have p227 : 0 ≤ ((ji7) : Int) := of_decide_eq_true (by first | (with_reducible assumption) | assumption)
                            have q227 : (ji7) < (l0.length : Int) := of_decide_eq_true (by first | (with_reducible assumption) | assumption)
                            obtain ⟨ad227, A227_0, c227_0, e227, hx227_0, hl227_0, hi227_0⟩ := at_L1 HR0.out (ji7) p227 q227
                            obtain rfl : ad223 = ad227 := (by injection e227)
                            have HR227_0 := Aside0.mk hi227_0
                            have HC227_0 := Aside0.mk hl227_0
                            clear hi227_0 hl227_0
                            replace p227 := eq_true p227
                            replace q227 := eq_true q227
                            have ea_ := Option.some.inj (hx224_0.symm.trans hx227_0)
                            injection ea_ with ea_ en_ ec_
                            subst ea_
                            subst ec_
                            clear en_
                            have p228 : 0 ≤ (0 : Int) := (by omega)
                            have q228 : 0 < ((rd_L1 l0 (ji7)).length : Int) := of_decide_eq_true (by first | (with_reducible assumption) | assumption)
                            obtain ⟨ad228, e228, hx228_0⟩ := Kd.at_int HR227_0.out 0 p228 q228
                            cases e228
                            have qi228 : (0 < (rd_L1 l0 (ji7)).length) = True := eq_true (by omega)
                            (try rw [show ((0 : Int)).toNat = 0 from rfl] at hx228_0)
                            (try rw [Addr.add_zero'] at hx228_0)
                            replace p228 := eq_true p228
                            replace q228 := eq_true q228
                            have p229 : 0 ≤ (0 : Int) := (by omega)
                            have q229 : 0 < ((rd_L1 l0 x7_1).length : Int) := of_decide_eq_true (by first | (with_reducible assumption) | assumption)
                            obtain ⟨ad229, e229, hx229_0⟩ := Kd.at_int HR223_0.out 0 p229 q229
                            obtain rfl : ad226 = ad229 := (by injection e229)
                            have qi229 : (0 < (rd_L1 l0 x7_1).length) = True := eq_true (by omega)
                            (try rw [show ((0 : Int)).toNat = 0 from rfl] at hx229_0)
                            (try rw [Addr.add_zero'] at hx229_0)
                            replace p229 := eq_true p229
                            replace q229 := eq_true q229
                            go_wp2
                            repeat (go_quiet (fail); try go_wp2)
                            go_roundg k1
                            case measure => have := HK1.out; omega
                            case rel => exact ⟨(wrap64 (x7_1 + 1)), (by first | rfl | (simp; done) | (simp [*]; done)), H', ⟨by have := HK1.out; omega⟩, by repeat (first | exact Drawn0.refl _ | apply Drawn0.step)⟩
                      · rw [if_neg c11] at H
                        exact absurd H (by simp)
                    · rw [if_neg c10] at H
                      exact absurd H (by simp)
                  · rw [if_neg c9] at H
                    exact absurd H (by simp)
                · rw [if_neg c8] at H
                  exact absurd H (by simp)
              · rw [if_neg c6] at H
                have c6b0 : decide (0 < x7_1) = false := decide_eq_false c6
                clear c6
                have H' := Aside0.mk H
                clear H
                have p223 : 0 ≤ (x7_1 : Int) := of_decide_eq_true (by first | (with_reducible assumption) | assumption)
                have q223 : x7_1 < (l0.length : Int) := of_decide_eq_true (by first | (with_reducible assumption) | assumption)
                obtain ⟨ad223, A223_0, c223_0, e223, hx223_0, hl223_0, hi223_0⟩ := at_L1 HR0.out x7_1 p223 q223
                cases e223
                have HR223_0 := Aside0.mk hi223_0
                have HC223_0 := Aside0.mk hl223_0
                clear hi223_0 hl223_0
                replace p223 := eq_true p223
                replace q223 := eq_true q223
                go_wp2
                repeat (go_quiet (fail); try go_wp2)
                go_roundg k1
                case measure => have := HK1.out; omega
                case rel => exact ⟨(wrap64 (x7_1 + 1)), (by first | rfl | (simp; done) | (simp [*]; done)), H', ⟨by have := HK1.out; omega⟩, by repeat (first | exact Drawn0.refl _ | apply Drawn0.step)⟩
            · rw [if_neg c5] at H
              have c5b0 : (((rd_L1 l0 x7_1).length : Int) == 2) = false := beq_eq_false_iff_ne.mpr c5
              have c5b1 : (((rd_L1 l0 x7_1).length : Int) != 2) = true := bne_iff_ne.mpr c5
              obtain rfl := Option.some.inj H
              have p223 : 0 ≤ (x7_1 : Int) := of_decide_eq_true (by first | (with_reducible assumption) | assumption)
              have q223 : x7_1 < (l0.length : Int) := of_decide_eq_true (by first | (with_reducible assumption) | assumption)
              obtain ⟨ad223, A223_0, c223_0, e223, hx223_0, hl223_0, hi223_0⟩ := at_L1 HR0.out x7_1 p223 q223
              cases e223
              have HR223_0 := Aside0.mk hi223_0
              have HC223_0 := Aside0.mk hl223_0
              clear hi223_0 hl223_0
              replace p223 := eq_true p223
              replace q223 := eq_true q223
              go_wp2
              repeat (go_quiet (fail); try go_wp2)
              go_ret
              exact ⟨by first | rfl | (simp; done) | (simp [*]; done), by repeat (first | exact Drawn0.refl _ | apply Drawn0.step)⟩
          · rw [if_neg c4] at H
            exact absurd H (by simp)
        · rw [if_neg c3] at H
          exact absurd H (by simp)
      · rw [if_neg c2] at H
        have c2b0 : decide (x7_1 < (l0.length : Int)) = false := decide_eq_false c2
        clear c2
        obtain rfl := Option.some.inj H
        go_wp2
        repeat (go_quiet (fail); try go_wp2)
        go_ret
        exact ⟨by first | rfl | (simp; done) | (simp [*]; done), by repeat (first | exact Drawn0.refl _ | apply Drawn0.step)⟩

/-! ### spec_DrawPairsOfSum: function 61 -/
def spec_DrawPairsOfSum.f (l0 : List Int) : Option (Int × Int) := (spec_l1Cur_limit.f l0 0 0).bind fun bt234 => ((spec_l1Cur_among.f l0 bt234.2.1 bt234.2.2 (([2, 4, 5, 7, 11, 17, 80, 81, 0, (-1), 4611686018427387904] : List Int))).bind fun bt240 => (some (bt234.1, bt240.1)))
set_option maxHeartbeats 8000000 in
set_option maxRecDepth 100000 in
theorem spec_DrawPairsOfSum.calls (A0 : Option Addr) (c0 : Nat) (l0 : List Int) (r1 : Int) (r2 : Int) (w : World) (hr0 : Kd.C (Kd.int .u8) w A0 l0.length l0) (hc0 : l0.length ≤ c0) (h : spec_DrawPairsOfSum.f l0 = some (r1, r2)) :
    Calls Try.prog 61 #[.slice A0 l0.length c0] w fun e w' => e = .returned (.tuple #[.int .i64 r1, .int .i64 r2]) ∧ Below w.heap.size w w' := by
  have hu81 := Try.underlying81
  have HR0 := Aside0.mk hr0
  have HC0 := Aside0.mk hc0
  clear hr0 hc0
  have HB := Aside0.mk (Below.refl w.heap.size w)
  have H : ((spec_l1Cur_limit.f l0 0 0).bind fun bt234 => ((spec_l1Cur_among.f l0 bt234.2.1 bt234.2.2 (([2, 4, 5, 7, 11, 17, 80, 81, 0, (-1), 4611686018427387904] : List Int))).bind fun bt240 => (some (bt234.1, bt240.1)))) = some (r1, r2) := h
  clear h
  replace H := Option.bind_eq_some_iff.mp H
  obtain ⟨⟨t234, t235, t236⟩, A20, H⟩ := H
  replace H : ((spec_l1Cur_among.f l0 t235 t236 (([2, 4, 5, 7, 11, 17, 80, 81, 0, (-1), 4611686018427387904] : List Int))).bind fun bt240 => (some (t234, bt240.1))) = some (r1, r2) := H
  have A2 := Aside0.mk A20
  clear A20
  obtain ⟨y237, hy237⟩ : ∃ y_ : List Int, y_ = (([2, 4, 5, 7, 11, 17, 80, 81, 0, (-1), 4611686018427387904] : List Int)) := ⟨_, rfl⟩
  replace H : ((spec_l1Cur_among.f l0 t235 t236 y237).bind fun bt240 => (some (t234, bt240.1))) = some (r1, r2) := by first | (rw [hy237]; with_reducible exact H) | (have H2_ := (Option.bind_some _ _).symm.trans H; rw [hy237]; with_reducible exact H2_) | (have H2_ := (Option.bind_some _ _).symm.trans H; with_reducible exact H2_) | with_reducible exact H | (rw [hy237]; exact H) | exact H
  have Ny237 := Aside0.mk hy237
  clear hy237
  replace H := Option.bind_eq_some_iff.mp H
  obtain ⟨⟨t240, t241, t242⟩, A30, H⟩ := H
  replace H : (some (t234, t240)) = some (r1, r2) := H
  have A3 := Aside0.mk A30
  clear A30
  simp only [Option.some.injEq, Prod.mk.injEq] at H
  obtain ⟨rfl, rfl⟩ := H
  go_enter Try.func61, Try.ntmps61
  go_wp2_with (first | ((with_reducible refine gate_dst (N := 8) rfl ?_); refine box_event ?hg (N := 8) ?hd (cs := #[.slice A0 l0.length c0, .int .i64 0, .int .u64 0]) (t := 81) ?hr ?_; (case hd => rfl); (case hg => rfl); (case hr => first | (go_simp; done) | (go_simp; rfl)); intro gb233 hg w4 hbox hb; have n0_ := Aside0.mk (below_step (by repeat (first | (with_reducible first | exact HB.out | apply below_alloc | apply pw_below_drewN | apply below_drew1) | exact HB.out)) hb); have n1_ := Aside0.mk ((by rw [hg]; exact (below_size (by repeat (first | (with_reducible first | exact HB.out | apply below_alloc | apply pw_below_drewN | apply below_drew1) | exact HB.out))) : w.heap.size ≤ gb233)); have n2_ := Aside0.mk ((by rw [hg]; exact (below_size (by repeat (first | (with_reducible first | exact HB.out | apply below_alloc | apply pw_below_drewN | apply below_drew1) | exact HB.out))) : w.heap.size ≤ gb233)); have n3_ := Aside0.mk ((⟨_, _, hbox, (by rw [hg]; exact (below_size (by repeat (first | (with_reducible first | exact HB.out | apply below_alloc | apply pw_below_drewN | apply below_drew1) | exact HB.out))) : w.heap.size ≤ gb233), HR0.out⟩ : IsS81 w w4 gb233 l0 0 0)); clear HB; have HB := n0_; have GW233 := n1_; have GE233 := n2_; have HI233 := n3_; clear n0_ n1_ n2_ n3_; clear hb hbox hg) | ((with_reducible refine gate_callee (f := 84) rfl ?_); refine goesL_ (some 10) rfl rfl Try.func84 (by kernel_rfl) rfl #[.pointer (some ⟨gb233, 0, none⟩)] rfl (by (try simp only [List.map_toArray, List.map_cons, List.map_nil]); first | done | rfl | (simp only [List.length_drop, List.length_take]; rfl)) ?_; (with_reducible refine (spec_l1Cur_limit.calls gb233 l0 0 0 t234 t235 t236 w _ ?side1 ?side2 A2.out).mono ?_); (case side1 => repeat (first | (with_reducible first | exact HI233.out | apply IsS81.alloc | apply IsS81.drewN | apply IsS81.drew | apply IsS81.set_1 | apply IsS81.set_2) | exact HI233.out)); (case side2 => repeat (first | (with_reducible first | exact HB.out | apply below_alloc | apply pw_below_drewN | apply below_drew1 | refine below_set ?_ (IsS81.ge HI233.out)) | exact HB.out)); rintro e w5 ⟨rfl, hi, hb, hk⟩; refine ⟨_, rfl, ?_⟩; have n0_ := Aside0.mk (hb); have n1_ := Aside0.mk (hi); clear HB; clear HI233; have HB := n0_; have HI233 := n1_; clear n0_ n1_; (try clear hb); (try clear hb2); (try clear hk); (try clear hi)) | ((with_reducible refine gate_dst (N := 13) rfl ?_); refine Kd.R_lit (Kd.int .i64) _ 3 ?hg (N := 13) ?hd (xs := ([2, 4, 5, 7, 11, 17, 80, 81, 0, (-1), 4611686018427387904] : List Int)) (inner := [.int .i64 2, .int .i64 4, .int .i64 5, .int .i64 7, .int .i64 11, .int .i64 17, .int .i64 80, .int .i64 81, .int .i64 0, .int .i64 (-1), .int .i64 4611686018427387904]) (ok := fun _ => True) (okp := fun _ => True) ?hr ?hp (fun _ hk => hk) trivial (Below.refl _ _) (Nat.le_refl _) (by simp) ?_; (case hd => rfl); (case hg => rfl); (case hr => first | (go_simp; done) | (go_simp; rfl)); (case hp => exact (Reps.one (show Kd.M (Kd.int .i64) _ _ _ 2 [.int .i64 2] from rfl) (Reps.one (show Kd.M (Kd.int .i64) _ _ _ 4 [.int .i64 4] from rfl) (Reps.one (show Kd.M (Kd.int .i64) _ _ _ 5 [.int .i64 5] from rfl) (Reps.one (show Kd.M (Kd.int .i64) _ _ _ 7 [.int .i64 7] from rfl) (Reps.one (show Kd.M (Kd.int .i64) _ _ _ 11 [.int .i64 11] from rfl) (Reps.one (show Kd.M (Kd.int .i64) _ _ _ 17 [.int .i64 17] from rfl) (Reps.one (show Kd.M (Kd.int .i64) _ _ _ 80 [.int .i64 80] from rfl) (Reps.one (show Kd.M (Kd.int .i64) _ _ _ 81 [.int .i64 81] from rfl) (Reps.one (show Kd.M (Kd.int .i64) _ _ _ 0 [.int .i64 0] from rfl) (Reps.one (show Kd.M (Kd.int .i64) _ _ _ (-1) [.int .i64 (-1)] from rfl) (Reps.one (show Kd.M (Kd.int .i64) _ _ _ 4611686018427387904 [.int .i64 4611686018427387904] from rfl) (Reps.none _ _))))))))))))); intro v238 w6 ho7 hb hg_ hnew_; clear hg_ hnew_; (first | rw [← Ny237.out] at ho7 | (simp only [Int.reduceToNat] at ho7; rw [← Ny237.out] at ho7)); have n0_ := Aside0.mk (Kd.R_lower ho7 (below_size (by repeat (first | (with_reducible first | exact HB.out | apply below_alloc | apply pw_below_drewN | apply below_drew1 | refine below_set ?_ (IsS81.ge HI233.out)) | exact HB.out)))); have n1_ := Aside0.mk (IsS81.below (by repeat (first | (with_reducible first | exact HI233.out | apply IsS81.alloc | apply IsS81.drewN | apply IsS81.drew | apply IsS81.set_1 | apply IsS81.set_2) | exact HI233.out)) hb); have n2_ := Aside0.mk (below_step (by repeat (first | (with_reducible first | exact HB.out | apply below_alloc | apply pw_below_drewN | apply below_drew1 | refine below_set ?_ (IsS81.ge HI233.out)) | exact HB.out)) hb); clear HI233; clear HB; have HO239 := n0_; have HI233 := n1_; have HB := n2_; clear n0_ n1_ n2_; clear hb ho7; obtain ⟨Ao8, co8, eo8⟩ := Kd.R_slice HO239.out; subst eo8) | ((with_reducible refine gate_callee (f := 99) rfl ?_); refine goesL_ (some 14) rfl rfl Try.func99 (by kernel_rfl) rfl #[.pointer (some ⟨gb233, 0, none⟩), .slice Ao8 y237.length co8] rfl (by (try simp only [List.map_toArray, List.map_cons, List.map_nil]); first | done | rfl | (simp only [List.length_drop, List.length_take]; rfl)) ?_; (with_reducible refine (spec_l1Cur_among.calls gb233 l0 t235 t236 _ _ y237 t240 t241 t242 w _ ?side1 ?side2 ?side3 ?side4 ?side5 A3.out).mono ?_); (case side1 => repeat (first | (with_reducible first | exact HI233.out | apply IsS81.alloc | apply IsS81.drewN | apply IsS81.drew | apply IsS81.set_1 | apply IsS81.set_2) | exact HI233.out)); (case side2 => repeat (first | (with_reducible first | exact HB.out | apply below_alloc | apply pw_below_drewN | apply below_drew1 | refine below_set ?_ (IsS81.ge HI233.out)) | exact HB.out)); (case side3 => repeat (first | exact (Kd.R_reads' HO239.out).2.2 | (with_reducible refine Kd.C_alloc ?_ _) | (with_reducible refine Kd.C_drewN ?_ _) | (with_reducible refine Kd.C_drew ?_))); (case side4 => exact (Kd.R_reads' HO239.out).2.1); (case side5 => exact far_slice (IsS81.own_ne HI233.out HO239.out (by decide))); rintro e w9 ⟨rfl, hi, hb, hk⟩; refine ⟨_, rfl, ?_⟩; have n0_ := Aside0.mk (Kd.R_mono (Kd.R_keep (IsS81.apart (show IsS81 w _ gb233 l0 t235 t236 from by repeat (first | (with_reducible first | exact HI233.out | apply IsS81.alloc | apply IsS81.drewN | apply IsS81.drew | apply IsS81.set_1 | apply IsS81.set_2) | exact HI233.out)) (by (with_reducible repeat (first | apply Kd.R_alloc | apply Kd.R_drewN | apply Kd.R_drew)); exact HO239.out) (by decide)) hk (fun _ h => h.2)) (fun _ h => h.1)); have n1_ := Aside0.mk (hb); have n2_ := Aside0.mk (hi); clear HO239; clear HB; clear HI233; have HO239 := n0_; have HB := n1_; have HI233 := n2_; clear n0_ n1_ n2_; (try clear hb); (try clear hb2); (try clear hk); (try clear hi)))
  go_ret2
  exact ⟨by first | rfl | (simp [errW_none, errW_some] <;> rfl) | (simp [*, errW_none, errW_some] <;> rfl), by repeat (first | (with_reducible first | exact HB.out | apply below_alloc | apply pw_below_drewN | apply below_drew1 | refine below_set ?_ (IsS81.ge HI233.out)) | exact HB.out)⟩

-- NOT PRINTED: function 101 (impl_PairsOfSum_1)

end Go.Proofs.Ytlkbphhmahipdaa.P
namespace Go.Proofs.Ytlkbphhmahipdaa.P
open Go.RowKit Go.Proofs.YtlkbphhmahipdaaW.PrintWords Go.Proofs.YtlkbphhmahipdaaW.PrintLast Go.Proofs.YtlkbphhmahipdaaW.PrintMore
attribute [local go_sem] max2_int min2_int max_two min_two max_three min_three max_four min_four   -- for this text's walks alone
set_option linter.unusedVariables false
set_option linter.unusedSimpArgs false

/-! ### impl_PairsOfSum: function 62, by hand -/
-- IMPORT Derived.Test.YtlkbphhmahipdaaTs
-- IMPORT Derived.BigQuiet
theorem impl_PairsOfSum.row_congr (q q' : Int → Int → Bool) (a m : Nat) (h : ∀ b : Int, (a : Int) ≤ b → b < (a : Int) + (m : Int) → q a b = q' a b) : impl_pairsThat.row q a m = impl_pairsThat.row q' a m := by
  unfold impl_pairsThat.row
  congr 1
  refine List.filter_congr fun j hj => ?_
  have := List.mem_range.1 hj
  exact h _ (by omega) (by omega)
theorem impl_PairsOfSum.all_congr (q q' : Int → Int → Bool) (n : Nat) (h : ∀ a b : Int, 1 ≤ a → a ≤ b → b ≤ (n : Int) → q a b = q' a b) : ∀ m, m ≤ n → impl_pairsThat.all q n m = impl_pairsThat.all q' n m := by
  intro m
  induction m with
  | zero => intro _; rfl
  | succ m ih =>
    intro hm
    rw [impl_pairsThat.all_succ, impl_pairsThat.all_succ, ih (by omega), impl_PairsOfSum.row_congr q q' (m + 1) (n - m) (fun b h1 h2 => h _ b (by omega) h1 (by omega))]
theorem impl_PairsOfSum.row_filter (q : Int → Int → Bool) (a m : Nat) : impl_pairsThat.row q a m = (impl_pairsThat.row (fun _ _ => true) a m).filter fun x => q (rd x 0) (rd x 1) := by
  unfold impl_pairsThat.row
  rw [List.filter_map, List.filter_filter]
  congr 1
  refine List.filter_congr fun j _ => ?_
  simp [rd]
theorem impl_PairsOfSum.all_filter (q : Int → Int → Bool) (n : Nat) : ∀ m, impl_pairsThat.all q n m = (impl_pairsThat.all (fun _ _ => true) n m).filter fun x => q (rd x 0) (rd x 1) := by
  intro m
  induction m with
  | zero => rfl
  | succ m ih => rw [impl_pairsThat.all_succ, impl_pairsThat.all_succ, List.filter_append, ← ih, ← impl_PairsOfSum.row_filter]
/-- All pairs with a sum (or with a product). -/
def impl_PairsOfSum.rows (s : Bool) (n v : Int) : List (List Int) := if (2 ≤ n ∧ n ≤ 40) ∧ 0 ≤ v then (impl_left.pairs n.toNat).filter fun x => decide (Tk.tv s x = v) else []
theorem impl_PairsOfSum.val (s : Bool) (n : Nat) (hn : n ≤ 40) (v : Int) : impl_pairsThat.all (fun a b => decide (wrap64 (Tk.tv s [a, b]) = v)) n n = (impl_left.pairs n).filter fun x => decide (Tk.tv s x = v) := by
  rw [impl_PairsOfSum.all_congr _ (fun a b => decide (Tk.tv s [a, b] = v)) n (fun a b h1 h2 h3 => ?_) n (Nat.le_refl n), impl_PairsOfSum.all_filter]
  · unfold impl_left.pairs
    refine List.filter_congr fun x hx => ?_
    obtain ⟨a, b, rfl, _⟩ := impl_left.all_mem _ n x hx
    rfl
  · have h4 : a ≤ 40 := by omega
    have h5 : 1 ≤ b := by omega
    have h6 : b ≤ 40 := by omega
    have := Tk.tv_bd s (0, a, b) ⟨⟨h1, h4⟩, h5, h6⟩
    have e : Tk.vl (0, a, b) = [a, b] := rfl
    rw [e] at this
    have e2 : wrap64 (Tk.tv s [a, b]) = Tk.tv s [a, b] := by unfold wrap64; omega
    rw [e2]
theorem impl_PairsOfSum.lim (n : Int) : spec_taLimit.f n = some (decide (2 ≤ n ∧ n ≤ 40)) := by
  unfold spec_taLimit.f spec_l1In.f
  by_cases h1 : (2 : Int) ≤ n <;> by_cases h2 : n ≤ 40 <;> simp [h1, h2] <;> omega
theorem impl_value.wide (s : Bool) (x : List Int) (hx : x.length = 2) : impl_value.f x (Tk.wh s) = some (wrap64 (Tk.tv s x)) := by
  cases s <;> simp [impl_value.f, Tk.wh, Tk.tv, hx]
set_option maxHeartbeats 4000000 in
set_option maxRecDepth 100000 in
theorem impl_PairsOfSum.clo (v : Int) (B : Nat) (p : Tk.PP) (W : World) (hinn : Tk.Inn 3 W 0 [p]) (hB : W.cell? ⟨B, 0, none⟩ = some (.int .i64 v)) :
    Calls Try.prog 101 #[Tk.cv p, .pointer (some ⟨B, 0, none⟩)] W fun e w' => e = .returned (.bool (decide (wrap64 (Tk.tv true [p.2.1, p.2.2]) = v))) ∧ Below W.heap.size W w' := by
  have hval := impl_value.calls (some ⟨p.1, 0, none⟩) 2 (Tk.vl p) (Tk.wh true) (wrap64 (Tk.tv true [p.2.1, p.2.2]))
  have htold := impl_value.wide true (Tk.vl p) rfl
  have hl2 : (Tk.vl p).length = 2 := rfl
  have HV : Aside0 (∀ m, Calls Try.prog 102 #[.slice (some ⟨p.1, 0, none⟩) 2 2, .string ⟨#[115]⟩] (W.drewN m) fun e w2 => e = .returned (.int .i64 (wrap64 (Tk.tv true [p.2.1, p.2.2]))) ∧ ∃ j, w2 = (W.drewN m).drewN j) := ⟨fun m => by
    have := hval (W.drewN m) (Kd.C_drewN (hinn.C p (by simp)) m) (by simp [Tk.vl]) htold
    rw [hl2] at this
    exact this.mono fun e w' h => ⟨h.1, h.2.out⟩⟩
  clear hval htold hl2 hinn
  generalize wrap64 (Tk.tv true [p.2.1, p.2.2]) = x at HV ⊢
  unfold Tk.cv
  go_enter Try.func101, Try.ntmps101
  go_wp2_with fail
  go_quiet (first | (go_at_call 102; exact Calls.quiet_of (HV.out _)))
  go_wp2
  go_ret
  exact ⟨by first | rfl | simp, ⟨rfl, rfl, rfl, Nat.le_refl _, fun _ _ => rfl⟩⟩
set_option maxHeartbeats 4000000 in
set_option maxRecDepth 100000 in
theorem impl_PairsOfSum.has (n v : Int) (w : World) :
    Calls Try.prog 62 #[.int .i64 n, .int .i64 v] w fun e w' => ∃ v0_ : Value, e = .returned (.tuple #[v0_, .bool (decide ((2 ≤ n ∧ n ≤ 40) ∧ 0 ≤ v))]) ∧ ∃ ps : List Tk.PP, Tk.Has 36 3 w' w.heap.size w.heap.size v0_ ps ∧ Tk.vals ps = impl_PairsOfSum.rows true n v ∧ Below w.heap.size w w' := by
  have TM : Aside0 (∀ W, Calls Try.prog 74 #[.int .i64 n] W fun e w' => e = .returned (.bool (decide (2 ≤ n ∧ n ≤ 40))) ∧ ∃ nd, w' = W.drewN nd) := ⟨fun W => (impl_isMost.calls n _ W (impl_isMost.told n)).mono fun e w' h => ⟨h.1, h.2.out⟩⟩
  have hb1 : Below w.heap.size w (w.alloc (.cells #[.int .i64 v] 3)) := below_alloc (Below.refl _ _) _
  have HB1 := Aside0.mk hb1
  have hc1 : (w.alloc (.cells #[.int .i64 v] 3)).cell? ⟨w.heap.size, 0, none⟩ = some (.int .i64 v) := by simp
  have HC1 := Aside0.mk hc1
  clear hb1 hc1
  unfold impl_PairsOfSum.rows
  by_cases hm : 2 ≤ n ∧ n ≤ 40
  · rw [decide_eq_true hm] at TM
    by_cases hv : v < 0
    · have e1 : decide ((2 ≤ n ∧ n ≤ 40) ∧ 0 ≤ v) = false := decide_eq_false (by omega)
      rw [e1, if_neg (by omega)]
      clear e1 hm
      go_enter Try.func62, Try.ntmps62
      go_wp2_with (go_at_call 74; refine (TM.out _).mono ?_; rintro e w2 ⟨rfl, j2, rfl⟩)
      go_ret2
      exact ⟨_, rfl, [], Tk.Has.nil _ _ _, rfl, below_step HB1.out (pw_below_drewN (Below.refl _ _) _)⟩
    · have e1 : decide ((2 ≤ n ∧ n ≤ 40) ∧ 0 ≤ v) = true := decide_eq_true (by omega)
      rw [e1, if_pos (by omega)]
      obtain ⟨m, rfl⟩ := Int.eq_ofNat_of_zero_le (show 0 ≤ n by omega)
      have hmn : m ≤ 40 := by omega
      have eg : ∀ args w, (callFunc 101 args).run Try.prog w = .ok (.enter 101 args) w := enters_of Try.func101 (by kernel_rfl) rfl
      have TP : Aside0 (∀ B W, W.cell? ⟨B, 0, none⟩ = some (.int .i64 v) → Calls Try.prog 100 #[.int .i64 (m : Int), .func (.func 101) #[] #[.pointer (some ⟨B, 0, none⟩)]] W fun e w' => ∃ u, e = .returned u ∧ Aside0 (∃ ps : List Tk.PP, Tk.Has 36 3 w' W.heap.size W.heap.size u ps ∧ Tk.vals ps = (impl_left.pairs m).filter (fun x => decide (Tk.tv true x = v)) ∧ Below W.heap.size W w')) := ⟨fun B W hB => by
        have h := impl_pairsThat.any (fun a b => decide (wrap64 (Tk.tv true [a, b]) = v)) 101 #[.pointer (some ⟨B, 0, none⟩)] eg m (by omega) W (fun p W' hW' hp => impl_PairsOfSum.clo v B p W' (fun q hq => by rw [List.mem_singleton.1 hq]; exact ⟨Nat.zero_le _, hp⟩) (pw_cell_below hW' hB))
        refine h.mono fun e w' he => ?_
        obtain ⟨u, rfl, ps, h1, h2, h3⟩ := he
        exact ⟨u, rfl, ⟨ps, h1, h2.trans (impl_PairsOfSum.val true m hmn v), h3⟩⟩⟩
      clear e1 hm eg
      rw [show (((m : Int)).toNat) = m from rfl]
      go_enter Try.func62, Try.ntmps62
      go_wp2_with (first
        | (go_at_call 74; refine (TM.out _).mono ?_; rintro e w2 ⟨rfl, j2, rfl⟩)
        | (go_at_call 100; refine (TP.out _ _ (pw_cell_below (pw_below_drewN (Below.refl _ _) j2) HC1.out)).mono ?_; rintro e w3 ⟨v3, rfl, h3⟩))
      go_ret2
      obtain ⟨ps, h4, h5, h6⟩ := h3.out
      have hz := (below_step HB1.out (pw_below_drewN (Below.refl _ _) j2)).size
      exact ⟨_, rfl, ps, h4.lower hz hz, h5, below_step (below_step HB1.out (pw_below_drewN (Below.refl _ _) j2)) h6⟩
  · rw [decide_eq_false hm] at TM
    have e1 : decide ((2 ≤ n ∧ n ≤ 40) ∧ 0 ≤ v) = false := decide_eq_false (by omega)
    rw [e1, if_neg (by omega)]
    clear e1 hm
    go_enter Try.func62, Try.ntmps62
    go_wp2_with (go_at_call 74; refine (TM.out _).mono ?_; rintro e w2 ⟨rfl, j2, rfl⟩)
    go_ret2
    exact ⟨_, rfl, [], Tk.Has.nil _ _ _, rfl, below_step HB1.out (pw_below_drewN (Below.refl _ _) _)⟩
def impl_PairsOfSum.f (n v : Int) : Option (List (List Int) × Bool) := some (impl_PairsOfSum.rows true n v, decide ((2 ≤ n ∧ n ≤ 40) ∧ 0 ≤ v))
theorem impl_PairsOfSum.calls (n v : Int) (r1 : List (List Int)) (r2 : Bool) (w : World) (h : impl_PairsOfSum.f n v = some (r1, r2)) :
    Calls Try.prog 62 #[.int .i64 n, .int .i64 v] w fun e w' => ∃ v0_ : Value, e = .returned (.tuple #[v0_, .bool r2]) ∧ Kd.S (Kd.slice 3 (Kd.int .i64)) 36 w' w.heap.size (fun _ => True) v0_ r1 ∧ Below w.heap.size w w' := by
  unfold impl_PairsOfSum.f at h
  obtain ⟨rfl, rfl⟩ := Prod.mk.inj (Option.some.inj h)
  exact (impl_PairsOfSum.has n v w).mono fun e w' he => by
    obtain ⟨u, rfl, ps, h1, h2, h4⟩ := he
    have hS := h1.S (Nat.le_refl _) (Nat.le_refl _)
    rw [h2] at hS
    exact ⟨u, rfl, hS, h4⟩

end Go.Proofs.Ytlkbphhmahipdaa.P
namespace Go.Proofs.Ytlkbphhmahipdaa.P
open Go.RowKit Go.Proofs.YtlkbphhmahipdaaW.PrintWords Go.Proofs.YtlkbphhmahipdaaW.PrintLast Go.Proofs.YtlkbphhmahipdaaW.PrintMore
attribute [local go_sem] max2_int min2_int max_two min_two max_three min_three max_four min_four   -- for this text's walks alone
set_option linter.unusedVariables false
set_option linter.unusedSimpArgs false

/-! ### spec_PairsOfSum: function 63, by hand -/
-- IMPORT Derived.Test.YtlkbphhmahipdaaTs
-- IMPORT Derived.BigQuiet
set_option maxHeartbeats 4000000 in
set_option maxRecDepth 100000 in
theorem spec_PairsOfSum.has (n v : Int) (w : World) :
    Calls Try.prog 63 #[.int .i64 n, .int .i64 v] w fun e w' => ∃ v0_ : Value, e = .returned (.tuple #[v0_, .bool (decide ((2 ≤ n ∧ n ≤ 40) ∧ 0 ≤ v))]) ∧ ∃ ps : List Tk.PP, Tk.Has 36 3 w' w.heap.size w.heap.size v0_ ps ∧ Tk.vals ps = impl_PairsOfSum.rows true n v ∧ Below w.heap.size w w' := by
  have TM : Aside0 (∀ W, Calls Try.prog 93 #[.int .i64 n] W fun e w' => e = .returned (.bool (decide (2 ≤ n ∧ n ≤ 40))) ∧ ∃ nd, w' = W.drewN nd) := ⟨fun W => (spec_taLimit.calls n _ W (impl_PairsOfSum.lim n)).mono fun e w' h => ⟨h.1, h.2.out⟩⟩
  unfold impl_PairsOfSum.rows
  by_cases hm : 2 ≤ n ∧ n ≤ 40
  · rw [decide_eq_true hm] at TM
    by_cases hv : v < 0
    · have e1 : decide ((2 ≤ n ∧ n ≤ 40) ∧ 0 ≤ v) = false := decide_eq_false (by omega)
      rw [e1, if_neg (by omega)]
      clear e1 hm
      go_enter Try.func63, Try.ntmps63
      go_wp2_with (go_at_call 93; refine (TM.out _).mono ?_; rintro e w2 ⟨rfl, j2, rfl⟩)
      go_ret2
      exact ⟨_, rfl, [], Tk.Has.nil _ _ _, rfl, pw_below_drewN (Below.refl _ _) _⟩
    · have e1 : decide ((2 ≤ n ∧ n ≤ 40) ∧ 0 ≤ v) = true := decide_eq_true (by omega)
      rw [e1, if_pos (by omega)]
      obtain ⟨m, rfl⟩ := Int.eq_ofNat_of_zero_le (show 0 ≤ n by omega)
      have hmn : m ≤ 40 := by omega
      have TP : Aside0 (∀ W, Calls Try.prog 94 #[.int .i64 (m : Int)] W fun e w' => ∃ A c, ∃ ps : List Tk.PP, e = .returned (.slice A ps.length c) ∧ ps.length ≤ 2000 ∧ Aside0 (Tk.Has 36 3 w' W.heap.size W.heap.size (.slice A ps.length c) ps ∧ Tk.vals ps = impl_left.pairs m ∧ Tk.Ok ps ∧ Below W.heap.size W w')) := ⟨fun W => (spec_taPairs.has m hmn W).mono fun e w' he => by
        obtain ⟨u, rfl, ps, h1, h2, h3⟩ := he
        obtain ⟨A, c, rfl, _⟩ := h1.slice
        have hok := impl_left.ok_all _ m hmn ps h2
        exact ⟨A, c, ps, rfl, hok.1, ⟨h1, h2, hok, h3⟩⟩⟩
      have T103 : Aside0 (∀ (p : Tk.PP) W, ((1 ≤ p.2.1 ∧ p.2.1 ≤ 40) ∧ (1 ≤ p.2.2 ∧ p.2.2 ≤ 40)) → Tk.Inn 3 W 0 [p] → Calls Try.prog 103 #[.string ⟨#[115]⟩, .slice (some ⟨p.1, 0, none⟩) 2 2] W fun e w' => e = .returned (.int .i64 (Tk.tv true (Tk.vl p))) ∧ ∃ j, w' = W.drewN j) := ⟨fun p W hp hI => by
        have := spec_taTold.calls (Tk.wh true) (some ⟨p.1, 0, none⟩) 2 (Tk.vl p) (Tk.tv true (Tk.vl p)) W (hI.C p (by simp)) (by simp [Tk.vl]) (spec_taTold.told true p hp)
        have hl2 : (Tk.vl p).length = 2 := rfl
        rw [hl2] at this
        exact this.mono fun e w' h => ⟨h.1, h.2.out⟩⟩
      clear e1 hm hmn
      rw [show (((m : Int)).toNat) = m from rfl]
      go_enter Try.func63, Try.ntmps63
      go_wp2_with (first
        | (go_at_call 93; refine (TM.out _).mono ?_; rintro e w2 ⟨rfl, j2, rfl⟩)
        | (go_at_call 94; refine (TP.out _).mono ?_; rintro e w3 ⟨A, c, ps, rfl, hlen, h3⟩))
      have HB3 := Aside0.mk (below_step (pw_below_drewN (Below.refl w.heap.size w) j2) h3.out.2.2.2)
      have HS0 := Aside0.mk (show Tk.KP.R 36 w3 w3.heap.size (fun _ => True) (.slice none 0 0) [] from Kd.R_nil _ _ _ _ _)
      go_loopg [6, 19] ps.length (fun gg s6 s19 wr => ∃ (k : Nat) (qs : List Tk.PP), s19 = .int .i64 (k : Int) ∧ k ≤ ps.length ∧ ps.length - k ≤ gg ∧ Aside0 (qs = (ps.take k).filter (fun p => decide (Tk.tv true (Tk.vl p) = v)) ∧ Tk.KP.R 36 wr w3.heap.size (fun _ => True) s6 qs ∧ Below w3.heap.size w3 wr ∧ qs.length ≤ k))
      case atStart => exact ⟨0, [], rfl, Nat.zero_le _, by omega, ⟨by simp, HS0.out, Below.refl _ _, Nat.le_refl _⟩⟩
      case round =>
        obtain ⟨k, qs, rfl, hk, hgg, HQ⟩ := hrel
        clear HS0
        by_cases hi : k < ps.length
        · have hkz : (k : Int) < (ps.length : Int) := by omega
          have hH := h3.out.1.below HQ.out.2.2.1
          obtain ⟨g0, cap0, ev, hcell⟩ := hH.at_ k hi
          obtain ⟨rfl, rfl⟩ : A = some ⟨g0, 0, none⟩ ∧ c = cap0 := by injection ev with e1 e2 e3; exact ⟨e1, e3⟩
          have hpm : ps[k] ∈ ps := List.getElem_mem hi
          have HC2 := Aside0.mk (T103.out ps[k] wr (h3.out.2.2.1.2 _ hpm) (fun q hq => by rw [List.mem_singleton.1 hq]; exact ⟨Nat.zero_le _, (hH.inn _ hpm).2⟩))
          have HKY := Aside0.mk (show (Tk.tv true (Tk.vl ps[k]) = v → qs ++ [ps[k]] = (ps.take (k + 1)).filter (fun p => decide (Tk.tv true (Tk.vl p) = v))) ∧ (Tk.tv true (Tk.vl ps[k]) ≠ v → qs = (ps.take (k + 1)).filter (fun p => decide (Tk.tv true (Tk.vl p) = v))) from ⟨fun h => by rw [HQ.out.1, List.take_succ_eq_append_getElem hi, List.filter_append]; simp [h], fun h => by rw [HQ.out.1, List.take_succ_eq_append_getElem hi, List.filter_append]; simp [h]⟩)
          clear hpm hH ev
          generalize Tk.tv true (Tk.vl ps[k]) = y at HC2 HKY
          unfold Tk.cv at hcell
          by_cases hd : y = v
          · subst hd
            go_wp2_with (first
              | (go_at_call 103; refine HC2.out.mono ?_; rintro e w8 ⟨rfl, j8, rfl⟩; clear HC2)
              | ((with_reducible refine gate_builtin (b := .append) (xs := #[.tmp 27, .tmp 29]) rfl ?_); at_builtin; refine Kd.R_append Tk.KP (w0 := w3) w3.heap.size rfl (.tmp 27) (.tmp 29) 25 36 (.slice none 0 0) 24 rfl Try.underlying25 (by kernel_rfl) rfl (by decide) (by omega) u6 qs ps[k] [.slice (some ⟨ps[k].1, 0, none⟩) 2 2] (fun _ => True) (fun _ => False) rfl (by first | (go_simp; done) | (go_simp; rfl)) rfl (fun _ hk => hk.elim) (fun _ _ => trivial) (Kd.R_drewN HQ.out.2.1 _) (pw_below_drewN HQ.out.2.2.1 _) HQ.out.2.2.1.size (by have := HQ.out.2.2.2; omega) ?_; intro v9 w9 ho hb hg hat; have HO9 := Aside0.mk (show _ ∧ _ from ⟨ho, hb⟩); clear ho hb hg hat))
            go_roundg (ps.length - (k + 1))
            case measure => omega
            case rel => exact ⟨k + 1, qs ++ [ps[k]], by go_num, by omega, Nat.le_refl _, ⟨HKY.out.1 (by first | rfl | trivial), HO9.out.1, HO9.out.2, by rw [List.length_append, List.length_singleton]; have := HQ.out.2.2.2; omega⟩⟩
          · go_wp2_with (go_at_call 103; refine HC2.out.mono ?_; rintro e w8 ⟨rfl, j8, rfl⟩; clear HC2)
            go_roundg (ps.length - (k + 1))
            case measure => omega
            case rel => exact ⟨k + 1, qs, by go_num, by omega, Nat.le_refl _, ⟨HKY.out.2 hd, Kd.R_drewN HQ.out.2.1 _, pw_below_drewN HQ.out.2.2.1 _, by have := HQ.out.2.2.2; omega⟩⟩
        · have hkz : ¬ (k : Int) < (ps.length : Int) := by omega
          obtain rfl : k = ps.length := by omega
          go_wp2
          go_ret2
          obtain ⟨hq, hR, hb, _⟩ := HQ.out
          rw [List.take_length] at hq
          obtain ⟨hH, hv2, hok, hb3⟩ := h3.out
          have hin := hH.inn.below hb
          have hs : ∀ p ∈ qs, p ∈ ps := fun p hp => by rw [hq] at hp; exact (List.mem_filter.1 hp).1
          have hz : w.heap.size ≤ w3.heap.size := HB3.out.size
          refine ⟨_, rfl, qs, Tk.Has.lower (base := w3.heap.size) (lo := w.heap.size) ⟨Tk.row_of hR, fun p hp => ⟨?_, (hin p (hs p hp)).2⟩, ?_, fun p hp e => ?_⟩ hz (Nat.le_refl _), ?_, below_step HB3.out hb⟩
          · exact Nat.le_trans (below_step (Below.refl w.heap.size w) (pw_below_drewN (Below.refl _ _) j2)).size (hin p (hs p hp)).1
          · rw [hq]; exact hH.nod.sublist ((List.filter_sublist (l := ps)).map _)
          · have h1 := hH.inn.lt p (hs p hp)
            have h2 := Kd.R_base hR p.1 e
            omega
          · rw [hq, ← hv2]
            exact Tk.vals_filter ps (fun x => decide (Tk.tv true x = v))
  · rw [decide_eq_false hm] at TM
    have e1 : decide ((2 ≤ n ∧ n ≤ 40) ∧ 0 ≤ v) = false := decide_eq_false (by omega)
    rw [e1, if_neg (by omega)]
    clear e1 hm
    go_enter Try.func63, Try.ntmps63
    go_wp2_with (go_at_call 93; refine (TM.out _).mono ?_; rintro e w2 ⟨rfl, j2, rfl⟩)
    go_ret2
    exact ⟨_, rfl, [], Tk.Has.nil _ _ _, rfl, pw_below_drewN (Below.refl _ _) _⟩
def spec_PairsOfSum.f (n v : Int) : Option (List (List Int) × Bool) := some (impl_PairsOfSum.rows true n v, decide ((2 ≤ n ∧ n ≤ 40) ∧ 0 ≤ v))
theorem spec_PairsOfSum.calls (n v : Int) (r1 : List (List Int)) (r2 : Bool) (w : World) (h : spec_PairsOfSum.f n v = some (r1, r2)) :
    Calls Try.prog 63 #[.int .i64 n, .int .i64 v] w fun e w' => ∃ v0_ : Value, e = .returned (.tuple #[v0_, .bool r2]) ∧ Kd.S (Kd.slice 3 (Kd.int .i64)) 36 w' w.heap.size (fun _ => True) v0_ r1 ∧ Below w.heap.size w w' := by
  unfold spec_PairsOfSum.f at h
  obtain ⟨rfl, rfl⟩ := Prod.mk.inj (Option.some.inj h)
  exact (spec_PairsOfSum.has n v w).mono fun e w' he => by
    obtain ⟨u, rfl, ps, h1, h2, h4⟩ := he
    have hS := h1.S (Nat.le_refl _) (Nat.le_refl _)
    rw [h2] at hS
    exact ⟨u, rfl, hS, h4⟩

end Go.Proofs.Ytlkbphhmahipdaa.P
