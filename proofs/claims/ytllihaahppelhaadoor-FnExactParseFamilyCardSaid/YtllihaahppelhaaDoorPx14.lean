/- Calls of the functions of the given program return what the plain Lean functions of the same names return; and a row of a law out of its pure statement. Written by a program of this session out of the translation; Lean checks it. No condition. -/
import Derived.Test.YtllihaahppelhaaDoorPx0
import Derived.Test.YtllihaahppelhaaDoorPx8
import Derived.Test.YtllihaahppelhaaDoorPx11
import Derived.Test.YtllihaahppelhaaDoorPxHstringsqSplit
import Derived.Test.YtllihaahppelhaaDoorPxHimplqreadNumber
namespace Go.Proofs.YtllihaahppelhaaDoor.P
open Go.RowKit Go.Proofs.YtllihaahppelhaaDoorW.PrintWords Go.Proofs.YtllihaahppelhaaDoorW.PrintLast Go.Proofs.YtllihaahppelhaaDoorW.PrintMore
attribute [local go_sem] max2_int min2_int max_two min_two max_three min_three max_four min_four   -- for this text's walks alone
set_option linter.unusedVariables false
set_option linter.unusedSimpArgs false

/-! ### impl_readNumbers: function 23 -/
def impl_readNumbers.l0 : Nat → List Int → List ByteArray → Int → Int → Option (List Int × Bool)
  | 0, _, _, _, _ => none
  | k + 1, x6, x14, x15, x16 => if x16 < x15 then (if 0 ≤ x16 then (if x16 < (x14.length : Int) then ((impl_readNumber.f (rdOf ByteArray.empty x14 x16)).bind fun bt219 => (if bt219.2 = true then (if x6.length < 17592186044416 then (impl_readNumbers.l0 k (x6 ++ [bt219.1]) x14 x15 (wrap64 (x16 + 1))) else (none)) else (some (([] : List Int), false)))) else (none)) else (none)) else (some (x6, true))
def impl_readNumbers.f (k : Nat) (a0 : ByteArray) (a1 : ByteArray) : Option (List Int × Bool) := (strings_Split.f a0 a1).bind fun t215 => (impl_readNumbers.l0 k (([] : List Int)) t215 (t215.length : Int) 0)
theorem impl_readNumbers.mono_l : ∀ k, (∀ y0 y1 y2 y3, LeO (impl_readNumbers.l0 k y0 y1 y2 y3) (impl_readNumbers.l0 (k + 1) y0 y1 y2 y3))
  | 0 => fun _ _ _ _ r h => by simp [impl_readNumbers.l0] at h
  | k + 1 => by
    have ih0 := impl_readNumbers.mono_l k
    · intro y0 y1 y2 y3
      unfold impl_readNumbers.l0
      repeat' first
      | (with_reducible exact ih0 _ _ _ _)
      | (with_reducible exact LeO.refl _)
      | (with_reducible exact LeO.none _)
      | (with_reducible refine LeO.ite ?_ ?_)
      | (with_reducible refine LeO.bind ?_ (fun _ => ?_))
      | exact ih0 _ _ _ _
      | exact LeO.none _
      | refine LeO.ite ?_ ?_
      | refine LeO.bind ?_ (fun _ => ?_)
theorem impl_readNumbers.mono : ∀ a0 a1 k, LeO (impl_readNumbers.f k a0 a1) (impl_readNumbers.f (k + 1) a0 a1) := by
  intro a0 a1 k
  have ih0 := impl_readNumbers.mono_l k
  unfold impl_readNumbers.f
  repeat' first
      | (with_reducible exact ih0 _ _ _ _)
      | (with_reducible exact LeO.refl _)
      | (with_reducible exact LeO.none _)
      | (with_reducible refine LeO.ite ?_ ?_)
      | (with_reducible refine LeO.bind ?_ (fun _ => ?_))
      | exact ih0 _ _ _ _
      | exact LeO.none _
      | refine LeO.ite ?_ ?_
      | refine LeO.bind ?_ (fun _ => ?_)
set_option maxHeartbeats 8000000 in
set_option maxRecDepth 100000 in
theorem impl_readNumbers.calls (k : Nat) (a0 : ByteArray) (a1 : ByteArray) (r1 : List Int) (r2 : Bool) (w : World) (h : impl_readNumbers.f k a0 a1 = some (r1, r2)) (hT : TQ w) :
    Calls Tryd.prog 23 #[.string a0, .string a1] w fun e w' => ∃ v0_ : Value, e = .returned (.tuple #[v0_, .bool r2]) ∧ Kd.R (Kd.int .i64) 3 w' w.heap.size (fun _ => True) v0_ r1 ∧ Below w.heap.size w w' := by
  have HTb_ := Aside0.mk hT
  clear hT
  have HB := Aside0.mk (Below.refl w.heap.size w)
  have H : ((strings_Split.f a0 a1).bind fun t215 => (impl_readNumbers.l0 k (([] : List Int)) t215 (t215.length : Int) 0)) = some (r1, r2) := h
  clear h
  obtain ⟨y212, hy212⟩ : ∃ y_ : List Int, y_ = (([] : List Int)) := ⟨_, rfl⟩
  replace H : ((strings_Split.f a0 a1).bind fun t215 => (impl_readNumbers.l0 k y212 t215 (t215.length : Int) 0)) = some (r1, r2) := by first | (rw [hy212]; with_reducible exact H) | (have H2_ := (Option.bind_some _ _).symm.trans H; rw [hy212]; with_reducible exact H2_) | (have H2_ := (Option.bind_some _ _).symm.trans H; with_reducible exact H2_) | with_reducible exact H | (rw [hy212]; exact H) | exact H
  have Ny212 := Aside0.mk hy212
  clear hy212
  replace H := Option.bind_eq_some_iff.mp H
  obtain ⟨t215, A30, H⟩ := H
  replace H : (impl_readNumbers.l0 k y212 t215 (t215.length : Int) 0) = some (r1, r2) := H
  have A3 := Aside0.mk A30
  clear A30
  have H' := Aside0.mk H
  clear H
  go_enter Tryd.func23, Tryd.ntmps23
  go_wp2_with (first | ((with_reducible refine gate_dst (N := 11) rfl ?_); refine Kd.R_lit (Kd.int .i64) _ 3 ?hg (N := 11) ?hd (xs := ([] : List Int)) (inner := []) (ok := fun _ => True) (okp := fun _ => True) ?hr ?hp (fun _ hk => hk) trivial (Below.refl _ _) (Nat.le_refl _) (by simp) ?_; (case hd => rfl); (case hg => rfl); (case hr => first | (go_simp; done) | (go_simp; rfl)); (case hp => exact (Reps.none _ _)); intro v213 w4 ho5 hb hg_ hnew_; clear hg_ hnew_; (first | rw [← Ny212.out] at ho5 | (simp only [Int.reduceToNat] at ho5; rw [← Ny212.out] at ho5)); have n0_ := Aside0.mk (Kd.R_lower ho5 (below_size (by repeat (first | (with_reducible first | exact HB.out | apply below_alloc | apply pw_below_drewN | apply below_drew1) | exact HB.out)))); have n1_ := Aside0.mk (below_step (by repeat (first | (with_reducible first | exact HB.out | apply below_alloc | apply pw_below_drewN | apply below_drew1) | exact HB.out)) hb); clear HB; have HO214 := n0_; have HB := n1_; clear n0_ n1_; clear hb ho5) | ((with_reducible refine gate_callee (f := 22) rfl ?_); refine goesL_ (some 14) rfl rfl Tryd.func22 (by kernel_rfl) rfl #[.string a0, .string a1] rfl (by (try simp only [List.map_toArray, List.map_cons, List.map_nil]); first | done | rfl | (simp only [List.length_drop, List.length_take]; rfl)) ?_; (with_reducible refine (strings_Split.calls a0 a1 t215 _ A3.out ?tb_).mono ?_); (case tb_ => exact HTb_.out.below (by repeat (first | (with_reducible first | exact HB.out | apply below_alloc | apply pw_below_drewN | apply below_drew1) | exact HB.out))); rintro e w6 ⟨v216, rfl, ho0, hb⟩; refine ⟨_, rfl, ?_⟩; have n0_ := Aside0.mk (Kd.R_below (by (with_reducible repeat (first | apply Kd.R_alloc | apply Kd.R_drewN | apply Kd.R_drew)); exact HO214.out) hb); have n1_ := Aside0.mk (Kd.R_lower ho0 (below_size (by repeat (first | (with_reducible first | exact HB.out | apply below_alloc | apply pw_below_drewN | apply below_drew1) | exact HB.out)))); have n2_ := Aside0.mk (below_step (by repeat (first | (with_reducible first | exact HB.out | apply below_alloc | apply pw_below_drewN | apply below_drew1) | exact HB.out)) hb); clear HO214; clear HB; have HO214 := n0_; have HO217 := n1_; have HB := n2_; clear n0_ n1_ n2_; (try clear hb); (try clear hb2); (try clear hk); (try clear hi); (try clear ho0); obtain ⟨Ao7, co7, eo7⟩ := Kd.R_slice HO217.out; subst eo7))
  go_loopg [6, 16] k (fun kq v6 v16 w' => ∃ (x6_1 : List Int) (x16_1 : Int), v16 = .int .i64 x16_1 ∧ Aside0 (impl_readNumbers.l0 kq x6_1 t215 (t215.length : Int) x16_1 = some (r1, r2)) ∧ Aside0 (kq ≤ k) ∧ Aside0 (Kd.R (Kd.int .i64) 3 w' w.heap.size (fun _ => True) v6 x6_1) ∧ Aside0 (Kd.R Kd.string 9 w' w.heap.size (fun _ => True) (.slice Ao7 t215.length co7) t215) ∧ Aside0 (Below w.heap.size w w'))
  case atStart => exact ⟨(y212), (0), (by first | rfl | (simp; done) | (simp [*]; done)), H', ⟨Nat.le_refl _⟩, ⟨by (with_reducible repeat (first | apply Kd.R_alloc | apply Kd.R_drewN | apply Kd.R_drew)); exact HO214.out⟩, ⟨by (with_reducible repeat (first | apply Kd.R_alloc | apply Kd.R_drewN | apply Kd.R_drew)); exact HO217.out⟩, ⟨by repeat (first | (with_reducible first | exact HB.out | apply below_alloc | apply pw_below_drewN | apply below_drew1) | exact HB.out)⟩⟩
  case round =>
    clear H'
    try clear c2
    try clear p2
    obtain ⟨x6_1, x16_1, rfl, HA, HK1, HO_6, HO_14, HB⟩ := hrel
    cases gk with
    | zero => exact absurd HA.out (by simp [impl_readNumbers.l0])
    | succ k1 =>
      have H := HA.out
      clear HA
      simp only [impl_readNumbers.l0] at H
      by_cases c8 : x16_1 < (t215.length : Int)
      · rw [if_pos c8] at H
        have c8b0 : decide (x16_1 < (t215.length : Int)) = true := decide_eq_true c8
        clear c8
        by_cases c9 : 0 ≤ x16_1
        · rw [if_pos c9] at H
          have c9b0 : decide (0 ≤ x16_1) = true := decide_eq_true c9
          clear c9
          by_cases c10 : x16_1 < (t215.length : Int)
          · rw [if_pos c10] at H
            have c10b0 : decide (x16_1 < (t215.length : Int)) = true := decide_eq_true c10
            clear c10
            replace H := Option.bind_eq_some_iff.mp H
            obtain ⟨⟨t219, t220⟩, A110, H⟩ := H
            replace H : (if t220 = true then (if x6_1.length < 17592186044416 then (impl_readNumbers.l0 k1 (x6_1 ++ [t219]) t215 (t215.length : Int) (wrap64 (x16_1 + 1))) else (none)) else (some (([] : List Int), false))) = some (r1, r2) := H
            have A11 := Aside0.mk A110
            clear A110
            by_cases c12 : t220 = true
            · subst c12
              have H1 : (if x6_1.length < 17592186044416 then (impl_readNumbers.l0 k1 (x6_1 ++ [t219]) t215 (t215.length : Int) (wrap64 (x16_1 + 1))) else (none)) = some (r1, r2) := by rw [if_pos rfl] at H; exact H
              clear H
              have H := H1
              clear H1
              by_cases c13 : x6_1.length < 17592186044416
              · rw [if_pos c13] at H
                have LMc13 := Aside0.mk c13
                clear c13
                obtain ⟨y221, hy221⟩ : ∃ y_ : List Int, y_ = (x6_1 ++ [t219]) := ⟨_, rfl⟩
                replace H : (impl_readNumbers.l0 k1 y221 t215 (t215.length : Int) (wrap64 (x16_1 + 1))) = some (r1, r2) := by first | (rw [hy221]; with_reducible exact H) | (have H2_ := (Option.bind_some _ _).symm.trans H; rw [hy221]; with_reducible exact H2_) | (have H2_ := (Option.bind_some _ _).symm.trans H; with_reducible exact H2_) | with_reducible exact H | (rw [hy221]; exact H) | exact H
                have Ny221 := Aside0.mk hy221
                clear hy221
                have H' := Aside0.mk H
                clear H
                have p218 : 0 ≤ (x16_1 : Int) := of_decide_eq_true (by first | (with_reducible assumption) | assumption)
                have q218 : x16_1 < (t215.length : Int) := of_decide_eq_true (by first | (with_reducible assumption) | assumption)
                obtain ⟨ad218, e218, hx218_0⟩ := Kd.at_string (Kd.R_reads' HO_14.out).2.2 x16_1 p218 q218
                cases e218
                replace p218 := eq_true p218
                replace q218 := eq_true q218
                go_wp2_with (first | ((with_reducible refine gate_callee (f := 33) rfl ?_); refine goesL_ (some 22) rfl rfl Tryd.func33 (by kernel_rfl) rfl #[.string (rdOf ByteArray.empty t215 x16_1)] rfl (by (try simp only [List.map_toArray, List.map_cons, List.map_nil]); first | done | rfl | (simp only [List.length_drop, List.length_take]; rfl)) ?_; (with_reducible refine (impl_readNumber.calls (rdOf ByteArray.empty t215 x16_1) t219 true _ A11.out ?tb_).mono ?_); (case tb_ => exact HTb_.out.below (by repeat (first | (with_reducible first | exact HB.out | apply below_alloc | apply pw_below_drewN | apply below_drew1) | exact HB.out))); rintro e w14 ⟨rfl, hb⟩; refine ⟨_, rfl, ?_⟩; have n0_ := Aside0.mk (Kd.R_below (by (with_reducible repeat (first | apply Kd.R_alloc | apply Kd.R_drewN | apply Kd.R_drew)); exact HO_6.out) hb); have n1_ := Aside0.mk (Kd.R_below (by (with_reducible repeat (first | apply Kd.R_alloc | apply Kd.R_drewN | apply Kd.R_drew)); exact HO_14.out) hb); have n2_ := Aside0.mk (below_step (by repeat (first | (with_reducible first | exact HB.out | apply below_alloc | apply pw_below_drewN | apply below_drew1) | exact HB.out)) hb); clear HO_6; clear HO_14; clear HB; have HO_6 := n0_; have HO_14 := n1_; have HB := n2_; clear n0_ n1_ n2_; (try clear hb); (try clear hb2); (try clear hk); (try clear hi)) | ((with_reducible refine gate_builtin (b := .append) (xs := #[.tmp 27, .tmp 29]) rfl ?_); at_builtin; refine Kd.R_append (Kd.int .i64) (w0 := w) w.heap.size rfl (.tmp 27) (.tmp 29) 45 3 (.int .i64 0) 8 rfl Tryd.underlying45 info3 rfl (by decide) (by omega) u6 x6_1 t219 [.int .i64 t219] (fun _ => True) (fun _ => False) rfl rfl ?aP (fun _ hk => hk.elim) ?aF ?aO ?aB ?aS ?aL ?_; (case aP => exact rfl); (case aB => exact (by repeat (first | (with_reducible first | exact HB.out | apply below_alloc | apply pw_below_drewN | apply below_drew1) | exact HB.out))); (case aF => exact (fun _ _ => trivial)); (case aO => exact (by (with_reducible repeat (first | apply Kd.R_alloc | apply Kd.R_drewN | apply Kd.R_drew)); exact HO_6.out)); (case aS => exact (below_size (by repeat (first | (with_reducible first | exact HB.out | apply below_alloc | apply pw_below_drewN | apply below_drew1) | exact HB.out)))); (case aL => have := LMc13.out; omega); intro v222 w15 ho hb hg hat; rw [← Ny221.out] at ho; have n0_ := Aside0.mk (Kd.R_over' (by (with_reducible repeat (first | apply Kd.R_alloc | apply Kd.R_drewN | apply Kd.R_drew)); exact HO_14.out) (Kd.R_typed (by (with_reducible repeat (first | apply Kd.R_alloc | apply Kd.R_drewN | apply Kd.R_drew)); exact HO_6.out)) (by decide) hg); have n1_ := Aside0.mk (hb); have n2_ := Aside0.mk (ho); clear HO_14; clear HB; clear HO_6; have HO_14 := n0_; have HB := n1_; have HO223 := n2_; clear n0_ n1_ n2_; clear ho hb hg hat))
                go_roundg k1
                case measure => have := HK1.out; omega
                case rel => exact ⟨(y221), (wrap64 (x16_1 + 1)), (by first | rfl | (simp; done) | (simp [*]; done)), H', ⟨by have := HK1.out; omega⟩, ⟨by (with_reducible repeat (first | apply Kd.R_alloc | apply Kd.R_drewN | apply Kd.R_drew)); exact HO223.out⟩, ⟨by (with_reducible repeat (first | apply Kd.R_alloc | apply Kd.R_drewN | apply Kd.R_drew)); exact HO_14.out⟩, ⟨by repeat (first | (with_reducible first | exact HB.out | apply below_alloc | apply pw_below_drewN | apply below_drew1) | exact HB.out)⟩⟩
              · rw [if_neg c13] at H
                exact absurd H (by simp)
            · replace c12 := Bool.eq_false_iff.mpr c12
              subst c12
              have H1 : (some (([] : List Int), false)) = some (r1, r2) := by rw [if_neg (show ¬ (false = true) by decide)] at H; exact H
              clear H
              have H := H1
              clear H1
              simp only [Option.some.injEq, Prod.mk.injEq] at H
              obtain ⟨rfl, rfl⟩ := H
              have p218 : 0 ≤ (x16_1 : Int) := of_decide_eq_true (by first | (with_reducible assumption) | assumption)
              have q218 : x16_1 < (t215.length : Int) := of_decide_eq_true (by first | (with_reducible assumption) | assumption)
              obtain ⟨ad218, e218, hx218_0⟩ := Kd.at_string (Kd.R_reads' HO_14.out).2.2 x16_1 p218 q218
              cases e218
              replace p218 := eq_true p218
              replace q218 := eq_true q218
              go_wp2_with (first | ((with_reducible refine gate_callee (f := 33) rfl ?_); refine goesL_ (some 22) rfl rfl Tryd.func33 (by kernel_rfl) rfl #[.string (rdOf ByteArray.empty t215 x16_1)] rfl (by (try simp only [List.map_toArray, List.map_cons, List.map_nil]); first | done | rfl | (simp only [List.length_drop, List.length_take]; rfl)) ?_; (with_reducible refine (impl_readNumber.calls (rdOf ByteArray.empty t215 x16_1) t219 false _ A11.out ?tb_).mono ?_); (case tb_ => exact HTb_.out.below (by repeat (first | (with_reducible first | exact HB.out | apply below_alloc | apply pw_below_drewN | apply below_drew1) | exact HB.out))); rintro e w16 ⟨rfl, hb⟩; refine ⟨_, rfl, ?_⟩; have n0_ := Aside0.mk (Kd.R_below (by (with_reducible repeat (first | apply Kd.R_alloc | apply Kd.R_drewN | apply Kd.R_drew)); exact HO_6.out) hb); have n1_ := Aside0.mk (Kd.R_below (by (with_reducible repeat (first | apply Kd.R_alloc | apply Kd.R_drewN | apply Kd.R_drew)); exact HO_14.out) hb); have n2_ := Aside0.mk (below_step (by repeat (first | (with_reducible first | exact HB.out | apply below_alloc | apply pw_below_drewN | apply below_drew1) | exact HB.out)) hb); clear HO_6; clear HO_14; clear HB; have HO_6 := n0_; have HO_14 := n1_; have HB := n2_; clear n0_ n1_ n2_; (try clear hb); (try clear hb2); (try clear hk); (try clear hi)))
              go_ret2
              exact ⟨_, by first | rfl | (simp [errW_none, errW_some] <;> rfl) | (simp [*, errW_none, errW_some] <;> rfl), by first | exact Kd.R_nil _ _ _ _ _ | exact Kd.N_nil _ _ _ _ _ | exact Kd.V_nil _ _ _ _ _ | exact Kd.Q_nil _ _ _ _ _ | exact Kd.S_nil _ _ _ _ _, by repeat (first | (with_reducible first | exact HB.out | apply below_alloc | apply pw_below_drewN | apply below_drew1) | exact HB.out)⟩
          · rw [if_neg c10] at H
            exact absurd H (by simp)
        · rw [if_neg c9] at H
          exact absurd H (by simp)
      · rw [if_neg c8] at H
        have c8b0 : decide (x16_1 < (t215.length : Int)) = false := decide_eq_false c8
        clear c8
        simp only [Option.some.injEq, Prod.mk.injEq] at H
        obtain ⟨rfl, rfl⟩ := H
        go_wp2
        go_ret2
        exact ⟨_, by first | rfl | (simp [errW_none, errW_some] <;> rfl) | (simp [*, errW_none, errW_some] <;> rfl), by (with_reducible repeat (first | apply Kd.R_alloc | apply Kd.R_drewN | apply Kd.R_drew)); exact HO_6.out, by repeat (first | (with_reducible first | exact HB.out | apply below_alloc | apply pw_below_drewN | apply below_drew1) | exact HB.out)⟩

/-! ### impl_ParseFamily: function 11 -/
mutual
def impl_ParseFamily.l0 : Nat → ByteArray → List (S37) → List ByteArray → Int → Int → Option ((List (S37)) × Bool)
  | 0, _, _, _, _, _ => none
  | k + 1, x0, x4, x12, x13, x14 => if x14 < x13 then (if 0 ≤ x14 then (if x14 < (x12.length : Int) then ((impl_readNumbers.f k (rdOf ByteArray.empty x12 x14) (⟨#[46]⟩ : ByteArray)).bind fun bt231 => (if bt231.2 = true then (if (bt231.1.length : Int) > 3 then (impl_ParseFamily.j1 k x0 x4 bt231.1 x12 x13 x14 true) else (impl_ParseFamily.j1 k x0 x4 bt231.1 x12 x13 x14 ((x4.length : Int) == 14))) else (impl_ParseFamily.j1 k x0 x4 bt231.1 x12 x13 x14 true))) else (none)) else (none)) else ((impl_IsFamily.f k x4).bind fun t252 => (if t252 = true then ((impl_familyText.f k x4).bind fun t253 => (if t253.toList = x0.toList then (some (x4, true)) else (some (([] : List (S37)), false)))) else (some (([] : List (S37)), false))))
def impl_ParseFamily.j1 : Nat → ByteArray → List (S37) → List Int → List ByteArray → Int → Int → Bool → Option ((List (S37)) × Bool)
  | 0, _, _, _, _, _, _, _ => none
  | k + 1, x0, x4, x7, x12, x13, x14, x34 => if x34 = true then (some (([] : List (S37)), false)) else (if 0 < (x7.length : Int) then (if (x7.length : Int) > 1 then (if 1 < (x7.length : Int) then (if (x7.length : Int) > 2 then (if 2 < (x7.length : Int) then (if x4.length < 5864062014805 then (impl_ParseFamily.l0 k x0 (x4 ++ [(⟨rd x7 0, rd x7 1, rd x7 2⟩ : S37)]) x12 x13 (wrap64 (x14 + 1))) else (none)) else (none)) else (if x4.length < 5864062014805 then (impl_ParseFamily.l0 k x0 (x4 ++ [(⟨rd x7 0, rd x7 1, (-1)⟩ : S37)]) x12 x13 (wrap64 (x14 + 1))) else (none))) else (none)) else (if (x7.length : Int) > 2 then (if 2 < (x7.length : Int) then (if x4.length < 5864062014805 then (impl_ParseFamily.l0 k x0 (x4 ++ [(⟨rd x7 0, (-1), rd x7 2⟩ : S37)]) x12 x13 (wrap64 (x14 + 1))) else (none)) else (none)) else (if x4.length < 5864062014805 then (impl_ParseFamily.l0 k x0 (x4 ++ [(⟨rd x7 0, (-1), (-1)⟩ : S37)]) x12 x13 (wrap64 (x14 + 1))) else (none)))) else (none))
end
def impl_ParseFamily.f (k : Nat) (a0 : ByteArray) : Option ((List (S37)) × Bool) := (strings_Split.f a0 (⟨#[59]⟩ : ByteArray)).bind fun t227 => (impl_ParseFamily.l0 k a0 (([] : List (S37))) t227 (t227.length : Int) 0)
theorem impl_ParseFamily.mono_l : ∀ k, (∀ y0 y1 y2 y3 y4, LeO (impl_ParseFamily.l0 k y0 y1 y2 y3 y4) (impl_ParseFamily.l0 (k + 1) y0 y1 y2 y3 y4)) ∧ (∀ y0 y1 y2 y3 y4 y5 y6, LeO (impl_ParseFamily.j1 k y0 y1 y2 y3 y4 y5 y6) (impl_ParseFamily.j1 (k + 1) y0 y1 y2 y3 y4 y5 y6))
  | 0 => ⟨fun _ _ _ _ _ r h => by simp [impl_ParseFamily.l0] at h, fun _ _ _ _ _ _ _ r h => by simp [impl_ParseFamily.j1] at h⟩
  | k + 1 => by
    obtain ⟨ih0, ih1⟩ := impl_ParseFamily.mono_l k
    refine ⟨?_, ?_⟩
    · intro y0 y1 y2 y3 y4
      unfold impl_ParseFamily.l0
      repeat' first
      | (with_reducible exact ih0 _ _ _ _ _)
      | (with_reducible exact ih1 _ _ _ _ _ _ _)
      | (with_reducible exact impl_IsFamily.mono _ _)
      | (with_reducible exact impl_familyText.mono _ _)
      | (with_reducible exact impl_readNumbers.mono _ _ _)
      | (with_reducible exact LeO.refl _)
      | (with_reducible exact LeO.none _)
      | (with_reducible refine LeO.ite ?_ ?_)
      | (with_reducible refine LeO.bind ?_ (fun _ => ?_))
      | exact ih0 _ _ _ _ _
      | exact ih1 _ _ _ _ _ _ _
      | exact impl_IsFamily.mono _ _
      | exact impl_familyText.mono _ _
      | exact impl_readNumbers.mono _ _ _
      | exact LeO.none _
      | refine LeO.ite ?_ ?_
      | refine LeO.bind ?_ (fun _ => ?_)
    · intro y0 y1 y2 y3 y4 y5 y6
      unfold impl_ParseFamily.j1
      repeat' first
      | (with_reducible exact ih0 _ _ _ _ _)
      | (with_reducible exact ih1 _ _ _ _ _ _ _)
      | (with_reducible exact impl_IsFamily.mono _ _)
      | (with_reducible exact impl_familyText.mono _ _)
      | (with_reducible exact impl_readNumbers.mono _ _ _)
      | (with_reducible exact LeO.refl _)
      | (with_reducible exact LeO.none _)
      | (with_reducible refine LeO.ite ?_ ?_)
      | (with_reducible refine LeO.bind ?_ (fun _ => ?_))
      | exact ih0 _ _ _ _ _
      | exact ih1 _ _ _ _ _ _ _
      | exact impl_IsFamily.mono _ _
      | exact impl_familyText.mono _ _
      | exact impl_readNumbers.mono _ _ _
      | exact LeO.none _
      | refine LeO.ite ?_ ?_
      | refine LeO.bind ?_ (fun _ => ?_)
theorem impl_ParseFamily.mono : ∀ a0 k, LeO (impl_ParseFamily.f k a0) (impl_ParseFamily.f (k + 1) a0) := by
  intro a0 k
  obtain ⟨ih0, ih1⟩ := impl_ParseFamily.mono_l k
  unfold impl_ParseFamily.f
  repeat' first
      | (with_reducible exact ih0 _ _ _ _ _)
      | (with_reducible exact ih1 _ _ _ _ _ _ _)
      | (with_reducible exact impl_IsFamily.mono _ _)
      | (with_reducible exact impl_familyText.mono _ _)
      | (with_reducible exact impl_readNumbers.mono _ _ _)
      | (with_reducible exact LeO.refl _)
      | (with_reducible exact LeO.none _)
      | (with_reducible refine LeO.ite ?_ ?_)
      | (with_reducible refine LeO.bind ?_ (fun _ => ?_))
      | exact ih0 _ _ _ _ _
      | exact ih1 _ _ _ _ _ _ _
      | exact impl_IsFamily.mono _ _
      | exact impl_familyText.mono _ _
      | exact impl_readNumbers.mono _ _ _
      | exact LeO.none _
      | refine LeO.ite ?_ ?_
      | refine LeO.bind ?_ (fun _ => ?_)
def pf_b (x7 : List Int) : Int := if (x7.length : Int) > 1 then rd x7 1 else -1
def pf_c (x7 : List Int) : Int := if (x7.length : Int) > 2 then rd x7 2 else -1
theorem pf_way {k : Nat} {x0 : ByteArray} {x4 : List S37} {x7 : List Int} {x12 : List ByteArray} {x13 x14 : Int} {r : List S37 × Bool} (H : (if (x7.length : Int) > 1 then (if 1 < (x7.length : Int) then (if (x7.length : Int) > 2 then (if 2 < (x7.length : Int) then (if x4.length < 5864062014805 then (impl_ParseFamily.l0 k x0 (x4 ++ [(⟨rd x7 0, rd x7 1, rd x7 2⟩ : S37)]) x12 x13 (wrap64 (x14 + 1))) else (none)) else (none)) else (if x4.length < 5864062014805 then (impl_ParseFamily.l0 k x0 (x4 ++ [(⟨rd x7 0, rd x7 1, (-1)⟩ : S37)]) x12 x13 (wrap64 (x14 + 1))) else (none))) else (none)) else (if (x7.length : Int) > 2 then (if 2 < (x7.length : Int) then (if x4.length < 5864062014805 then (impl_ParseFamily.l0 k x0 (x4 ++ [(⟨rd x7 0, (-1), rd x7 2⟩ : S37)]) x12 x13 (wrap64 (x14 + 1))) else (none)) else (none)) else (if x4.length < 5864062014805 then (impl_ParseFamily.l0 k x0 (x4 ++ [(⟨rd x7 0, (-1), (-1)⟩ : S37)]) x12 x13 (wrap64 (x14 + 1))) else (none)))) = some r) :
    x4.length < 5864062014805 ∧ impl_ParseFamily.l0 k x0 (x4 ++ [(⟨rd x7 0, pf_b x7, pf_c x7⟩ : S37)]) x12 x13 (wrap64 (x14 + 1)) = some r := by
  unfold pf_b pf_c
  by_cases h1 : 1 < (x7.length : Int) <;> by_cases h2 : 2 < (x7.length : Int) <;> by_cases h3 : x4.length < 5864062014805 <;> simp only [gt_iff_lt, h1, h2, h3, if_true, if_false, true_and] at H ⊢ <;> first | exact H | exact absurd H (by simp)
set_option maxHeartbeats 8000000 in
set_option maxRecDepth 100000 in
theorem impl_ParseFamily.calls (k : Nat) (a0 : ByteArray) (r1 : List (S37)) (r2 : Bool) (w : World) (h : impl_ParseFamily.f k a0 = some (r1, r2)) (hT : TQ w) :
    Calls Tryd.prog 11 #[.string a0] w fun e w' => ∃ v0_ : Value, e = .returned (.tuple #[v0_, .bool r2]) ∧ Kd.R k37 37 w' w.heap.size (fun _ => True) v0_ r1 ∧ Below w.heap.size w w' := by
  have HTb_ := Aside0.mk hT
  clear hT
  have hu37 := Tryd.underlying37
  have HB := Aside0.mk (Below.refl w.heap.size w)
  have H : ((strings_Split.f a0 (⟨#[59]⟩ : ByteArray)).bind fun t227 => (impl_ParseFamily.l0 k a0 (([] : List (S37))) t227 (t227.length : Int) 0)) = some (r1, r2) := h
  clear h
  obtain ⟨y224, hy224⟩ : ∃ y_ : List (S37), y_ = (([] : List (S37))) := ⟨_, rfl⟩
  replace H : ((strings_Split.f a0 (⟨#[59]⟩ : ByteArray)).bind fun t227 => (impl_ParseFamily.l0 k a0 y224 t227 (t227.length : Int) 0)) = some (r1, r2) := by first | (rw [hy224]; with_reducible exact H) | (have H2_ := (Option.bind_some _ _).symm.trans H; rw [hy224]; with_reducible exact H2_) | (have H2_ := (Option.bind_some _ _).symm.trans H; with_reducible exact H2_) | with_reducible exact H | (rw [hy224]; exact H) | exact H
  have Ny224 := Aside0.mk hy224
  clear hy224
  replace H := Option.bind_eq_some_iff.mp H
  obtain ⟨t227, A20, H⟩ := H
  replace H : (impl_ParseFamily.l0 k a0 y224 t227 (t227.length : Int) 0) = some (r1, r2) := H
  have A2 := Aside0.mk A20
  clear A20
  have H' := Aside0.mk H
  clear H
  go_enter Tryd.func11, Tryd.ntmps11
  go_wp2_with (first | ((with_reducible refine gate_dst (N := 10) rfl ?_); (try (refine gate_guard (by rfl) ?_; dsimp only)); refine Kd.R_lit k37 _ 37 ?hg (N := 10) ?hd (xs := ([] : List (S37))) (inner := []) (ok := fun _ => True) (okp := fun _ => True) ?hr ?hp (fun _ hk => hk) trivial (Below.refl _ _) (Nat.le_refl _) (by simp) ?_; (case hd => rfl); (case hg => rfl); (case hr => first | (go_simp; done) | (go_simp; rfl)); (case hp => exact (Reps.none _ _)); intro v225 w3 ho4 hb hg_ hnew_; clear hg_ hnew_; (first | rw [← Ny224.out] at ho4 | (simp only [Int.reduceToNat] at ho4; rw [← Ny224.out] at ho4)); have n0_ := Aside0.mk (Kd.R_lower ho4 (below_size (by repeat (first | (with_reducible first | exact HB.out | apply below_alloc | apply pw_below_drewN | apply below_drew1) | exact HB.out)))); have n1_ := Aside0.mk (below_step (by repeat (first | (with_reducible first | exact HB.out | apply below_alloc | apply pw_below_drewN | apply below_drew1) | exact HB.out)) hb); clear HB; have HO226 := n0_; have HB := n1_; clear n0_ n1_; clear hb ho4) | ((with_reducible refine gate_callee (f := 22) rfl ?_); refine goesL_ (some 12) rfl rfl Tryd.func22 (by kernel_rfl) rfl #[.string a0, .string (⟨#[59]⟩ : ByteArray)] rfl (by (try simp only [List.map_toArray, List.map_cons, List.map_nil]); first | done | rfl | (simp only [List.length_drop, List.length_take]; rfl)) ?_; (with_reducible refine (strings_Split.calls a0 (⟨#[59]⟩ : ByteArray) t227 _ A2.out ?tb_).mono ?_); (case tb_ => exact HTb_.out.below (by repeat (first | (with_reducible first | exact HB.out | apply below_alloc | apply pw_below_drewN | apply below_drew1) | exact HB.out))); rintro e w5 ⟨v228, rfl, ho0, hb⟩; refine ⟨_, rfl, ?_⟩; have n0_ := Aside0.mk (Kd.R_below (by (with_reducible repeat (first | apply Kd.R_alloc | apply Kd.R_drewN | apply Kd.R_drew)); exact HO226.out) hb); have n1_ := Aside0.mk (Kd.R_lower ho0 (below_size (by repeat (first | (with_reducible first | exact HB.out | apply below_alloc | apply pw_below_drewN | apply below_drew1) | exact HB.out)))); have n2_ := Aside0.mk (below_step (by repeat (first | (with_reducible first | exact HB.out | apply below_alloc | apply pw_below_drewN | apply below_drew1) | exact HB.out)) hb); clear HO226; clear HB; have HO226 := n0_; have HO229 := n1_; have HB := n2_; clear n0_ n1_ n2_; (try clear hb); (try clear hb2); (try clear hk); (try clear hi); (try clear ho0); obtain ⟨Ao6, co6, eo6⟩ := Kd.R_slice HO229.out; subst eo6))
  go_loopg [4, 14] k (fun kq v4 v14 w' => ∃ (x4_1 : List (S37)) (x14_1 : Int), v14 = .int .i64 x14_1 ∧ Aside0 (impl_ParseFamily.l0 kq a0 x4_1 t227 (t227.length : Int) x14_1 = some (r1, r2)) ∧ Aside0 (kq ≤ k) ∧ Aside0 (Kd.R k37 37 w' w.heap.size (fun _ => True) v4 x4_1) ∧ Aside0 (Kd.R Kd.string 9 w' w.heap.size (fun _ => True) (.slice Ao6 t227.length co6) t227) ∧ Aside0 (Below w.heap.size w w'))
  case atStart => exact ⟨(y224), (0), (by first | rfl | (simp; done) | (simp [*]; done)), H', ⟨Nat.le_refl _⟩, ⟨by (with_reducible repeat (first | apply Kd.R_alloc | apply Kd.R_drewN | apply Kd.R_drew)); exact HO226.out⟩, ⟨by (with_reducible repeat (first | apply Kd.R_alloc | apply Kd.R_drewN | apply Kd.R_drew)); exact HO229.out⟩, ⟨by repeat (first | (with_reducible first | exact HB.out | apply below_alloc | apply pw_below_drewN | apply below_drew1) | exact HB.out)⟩⟩
  case round =>
    clear H'
    try clear c1
    try clear c2
    try clear p2
    obtain ⟨x4_1, x14_1, rfl, HA, HK1, HO_4, HO_12, HB⟩ := hrel
    cases gk with
    | zero => exact absurd HA.out (by simp [impl_ParseFamily.l0])
    | succ k1 =>
      have H := HA.out
      clear HA
      simp only [impl_ParseFamily.l0] at H
      by_cases c7 : x14_1 < (t227.length : Int)
      · rw [if_pos c7] at H
        have c7b0 : decide (x14_1 < (t227.length : Int)) = true := decide_eq_true c7
        clear c7
        by_cases c8 : 0 ≤ x14_1
        · rw [if_pos c8] at H
          have c8b0 : decide (0 ≤ x14_1) = true := decide_eq_true c8
          clear c8
          by_cases c9 : x14_1 < (t227.length : Int)
          · rw [if_pos c9] at H
            have c9b0 : decide (x14_1 < (t227.length : Int)) = true := decide_eq_true c9
            clear c9
            replace H := Option.bind_eq_some_iff.mp H
            obtain ⟨⟨t231, t232⟩, A100, H⟩ := H
            replace H : (if t232 = true then (if (t231.length : Int) > 3 then (impl_ParseFamily.j1 k1 a0 x4_1 t231 t227 (t227.length : Int) x14_1 true) else (impl_ParseFamily.j1 k1 a0 x4_1 t231 t227 (t227.length : Int) x14_1 ((x4_1.length : Int) == 14))) else (impl_ParseFamily.j1 k1 a0 x4_1 t231 t227 (t227.length : Int) x14_1 true)) = some (r1, r2) := H
            have A10 := Aside0.mk A100
            clear A100
            have HC11 := Aside0.mk H
            clear H
            have p230 : 0 ≤ (x14_1 : Int) := of_decide_eq_true (by first | (with_reducible assumption) | assumption)
            have q230 : x14_1 < (t227.length : Int) := of_decide_eq_true (by first | (with_reducible assumption) | assumption)
            obtain ⟨ad230, e230, hx230_0⟩ := Kd.at_string (Kd.R_reads' HO_12.out).2.2 x14_1 p230 q230
            cases e230
            replace p230 := eq_true p230
            replace q230 := eq_true q230
            go_upto_region 6 with (first | ((with_reducible refine gate_callee (f := 23) rfl ?_); refine goesL_ (some 20) rfl rfl Tryd.func23 (by kernel_rfl) rfl #[.string (rdOf ByteArray.empty t227 x14_1), .string (⟨#[46]⟩ : ByteArray)] rfl (by (try simp only [List.map_toArray, List.map_cons, List.map_nil]); first | done | rfl | (simp only [List.length_drop, List.length_take]; rfl)) ?_; (with_reducible refine (impl_readNumbers.calls k1 (rdOf ByteArray.empty t227 x14_1) (⟨#[46]⟩ : ByteArray) t231 t232 _ A10.out ?tb_).mono ?_); (case tb_ => exact HTb_.out.below (by repeat (first | (with_reducible first | exact HB.out | apply below_alloc | apply pw_below_drewN | apply below_drew1) | exact HB.out))); rintro e w12 ⟨v233, rfl, ho0, hb⟩; refine ⟨_, rfl, ?_⟩; have n0_ := Aside0.mk (Kd.R_below (by (with_reducible repeat (first | apply Kd.R_alloc | apply Kd.R_drewN | apply Kd.R_drew)); exact HO_4.out) hb); have n1_ := Aside0.mk (Kd.R_below (by (with_reducible repeat (first | apply Kd.R_alloc | apply Kd.R_drewN | apply Kd.R_drew)); exact HO_12.out) hb); have n2_ := Aside0.mk (Kd.R_lower ho0 (below_size (by repeat (first | (with_reducible first | exact HB.out | apply below_alloc | apply pw_below_drewN | apply below_drew1) | exact HB.out)))); have n3_ := Aside0.mk (below_step (by repeat (first | (with_reducible first | exact HB.out | apply below_alloc | apply pw_below_drewN | apply below_drew1) | exact HB.out)) hb); clear HO_4; clear HO_12; clear HB; have HO_4 := n0_; have HO_12 := n1_; have HO234 := n2_; have HB := n3_; clear n0_ n1_ n2_ n3_; (try clear hb); (try clear hb2); (try clear hk); (try clear hi); (try clear ho0)))
            (try simp only [Act.put, List.setIfInBounds_toArray, List.set_cons_zero, List.set_cons_succ])
            go_cut [34] (fun v34 wc => ∃ (kq : Nat) (x34_10 : Bool), v34 = .bool x34_10 ∧ Aside0 (impl_ParseFamily.j1 kq a0 x4_1 t231 t227 (t227.length : Int) x14_1 x34_10 = some (r1, r2)) ∧ Aside0 (kq ≤ k1) ∧ Aside0 (Kd.R k37 37 wc w.heap.size (fun _ => True) u4 x4_1) ∧ Aside0 (Kd.R (Kd.int .i64) 3 wc w.heap.size (fun _ => True) v233 t231) ∧ Aside0 (Kd.R Kd.string 9 wc w.heap.size (fun _ => True) (.slice (some ad230) t227.length co6) t227) ∧ Aside0 (Below w.heap.size w wc))
            case first =>
              have H := HC11.out
              clear HC11
              by_cases c13 : t232 = true
              · subst c13
                have H1 : (if (t231.length : Int) > 3 then (impl_ParseFamily.j1 k1 a0 x4_1 t231 t227 (t227.length : Int) x14_1 true) else (impl_ParseFamily.j1 k1 a0 x4_1 t231 t227 (t227.length : Int) x14_1 ((x4_1.length : Int) == 14))) = some (r1, r2) := by rw [if_pos rfl] at H; exact H
                clear H
                have H := H1
                clear H1
                by_cases c14 : (t231.length : Int) > 3
                · rw [if_pos c14] at H
                  have c14b0 : decide (3 < (t231.length : Int)) = true := decide_eq_true c14
                  have c14b1 : decide (3 < t231.length) = true := decide_eq_true (by omega)
                  clear c14
                  (first | rw [c14b0] | (simp only [i64_w, i32_w]; rw [c14b0]) | skip)
                  have H' := Aside0.mk H
                  clear H
                  obtain ⟨Ao15, co15, eo15⟩ := Kd.R_slice HO234.out
                  subst eo15
                  go_wp2
                  go_meet
                  case rel => exact ⟨_, (true), (by first | rfl | (simp; done) | (simp [*]; done)), H', ⟨by have := HK1.out; first | omega | exact Nat.le_refl _⟩, ⟨by (with_reducible repeat (first | apply Kd.R_alloc | apply Kd.R_drewN | apply Kd.R_drew)); exact HO_4.out⟩, ⟨by (with_reducible repeat (first | apply Kd.R_alloc | apply Kd.R_drewN | apply Kd.R_drew)); exact HO234.out⟩, ⟨by (with_reducible repeat (first | apply Kd.R_alloc | apply Kd.R_drewN | apply Kd.R_drew)); exact HO_12.out⟩, ⟨by repeat (first | (with_reducible first | exact HB.out | apply below_alloc | apply pw_below_drewN | apply below_drew1) | exact HB.out)⟩⟩
                · rw [if_neg c14] at H
                  have c14b0 : decide (3 < (t231.length : Int)) = false := decide_eq_false c14
                  have c14b1 : decide (3 < t231.length) = false := decide_eq_false (by omega)
                  clear c14
                  (first | rw [c14b0] | (simp only [i64_w, i32_w]; rw [c14b0]) | skip)
                  have H' := Aside0.mk H
                  clear H
                  obtain ⟨Ao16, co16, eo16⟩ := Kd.R_slice HO234.out
                  subst eo16
                  obtain ⟨Ao17, co17, eo17⟩ := Kd.R_slice HO_4.out
                  subst eo17
                  go_wp2
                  go_meet
                  case rel => exact ⟨_, (((x4_1.length : Int) == 14)), (by first | rfl | (simp; done) | (simp [*]; done)), H', ⟨by have := HK1.out; first | omega | exact Nat.le_refl _⟩, ⟨by (with_reducible repeat (first | apply Kd.R_alloc | apply Kd.R_drewN | apply Kd.R_drew)); exact HO_4.out⟩, ⟨by (with_reducible repeat (first | apply Kd.R_alloc | apply Kd.R_drewN | apply Kd.R_drew)); exact HO234.out⟩, ⟨by (with_reducible repeat (first | apply Kd.R_alloc | apply Kd.R_drewN | apply Kd.R_drew)); exact HO_12.out⟩, ⟨by repeat (first | (with_reducible first | exact HB.out | apply below_alloc | apply pw_below_drewN | apply below_drew1) | exact HB.out)⟩⟩
              · replace c13 := Bool.eq_false_iff.mpr c13
                subst c13
                have H1 : (impl_ParseFamily.j1 k1 a0 x4_1 t231 t227 (t227.length : Int) x14_1 true) = some (r1, r2) := by rw [if_neg (show ¬ (false = true) by decide)] at H; exact H
                clear H
                have H := H1
                clear H1
                have H' := Aside0.mk H
                clear H
                go_wp2
                go_meet
                case rel => exact ⟨_, (true), (by first | rfl | (simp; done) | (simp [*]; done)), H', ⟨by have := HK1.out; first | omega | exact Nat.le_refl _⟩, ⟨by (with_reducible repeat (first | apply Kd.R_alloc | apply Kd.R_drewN | apply Kd.R_drew)); exact HO_4.out⟩, ⟨by (with_reducible repeat (first | apply Kd.R_alloc | apply Kd.R_drewN | apply Kd.R_drew)); exact HO234.out⟩, ⟨by (with_reducible repeat (first | apply Kd.R_alloc | apply Kd.R_drewN | apply Kd.R_drew)); exact HO_12.out⟩, ⟨by repeat (first | (with_reducible first | exact HB.out | apply below_alloc | apply pw_below_drewN | apply below_drew1) | exact HB.out)⟩⟩
            case rest =>
              clear HC11
              try clear c1
              try clear c2
              try clear p2
              try clear q2
              try clear hx2
              try clear c7
              try clear c7b0
              try clear c8
              try clear c8b0
              try clear c9
              try clear c9b0
              try clear c11
              try clear c13
              try clear c14
              try clear c14b0
              try clear c14b1
              try clear hx230_0
              try clear p2
              try clear p230
              try clear q230
              obtain ⟨kq, x34_10, rfl, HA, HJ10, HO_4, HO_7, HO_12, HB⟩ := hcut
              cases kq with
              | zero => exact absurd HA.out (by simp [impl_ParseFamily.j1])
              | succ kj10 =>
                have H := HA.out
                clear HA
                simp only [impl_ParseFamily.j1] at H
                by_cases c18 : x34_10 = true
                · subst c18
                  have H1 : (some (([] : List (S37)), false)) = some (r1, r2) := by rw [if_pos rfl] at H; exact H
                  clear H
                  have H := H1
                  clear H1
                  simp only [Option.some.injEq, Prod.mk.injEq] at H
                  obtain ⟨rfl, rfl⟩ := H
                  go_wp2
                  go_ret2
                  exact ⟨_, by first | rfl | (simp [errW_none, errW_some] <;> rfl) | (simp [*, errW_none, errW_some] <;> rfl), by first | exact Kd.R_nil _ _ _ _ _ | exact Kd.N_nil _ _ _ _ _ | exact Kd.V_nil _ _ _ _ _ | exact Kd.Q_nil _ _ _ _ _ | exact Kd.S_nil _ _ _ _ _, by repeat (first | (with_reducible first | exact HB.out | apply below_alloc | apply pw_below_drewN | apply below_drew1) | exact HB.out)⟩
                · replace c18 := Bool.eq_false_iff.mpr c18
                  subst c18
                  have H1 : (if 0 < (t231.length : Int) then (if (t231.length : Int) > 1 then (if 1 < (t231.length : Int) then (if (t231.length : Int) > 2 then (if 2 < (t231.length : Int) then (if x4_1.length < 5864062014805 then (impl_ParseFamily.l0 kj10 a0 (x4_1 ++ [(⟨rd t231 0, rd t231 1, rd t231 2⟩ : S37)]) t227 (t227.length : Int) (wrap64 (x14_1 + 1))) else (none)) else (none)) else (if x4_1.length < 5864062014805 then (impl_ParseFamily.l0 kj10 a0 (x4_1 ++ [(⟨rd t231 0, rd t231 1, (-1)⟩ : S37)]) t227 (t227.length : Int) (wrap64 (x14_1 + 1))) else (none))) else (none)) else (if (t231.length : Int) > 2 then (if 2 < (t231.length : Int) then (if x4_1.length < 5864062014805 then (impl_ParseFamily.l0 kj10 a0 (x4_1 ++ [(⟨rd t231 0, (-1), rd t231 2⟩ : S37)]) t227 (t227.length : Int) (wrap64 (x14_1 + 1))) else (none)) else (none)) else (if x4_1.length < 5864062014805 then (impl_ParseFamily.l0 kj10 a0 (x4_1 ++ [(⟨rd t231 0, (-1), (-1)⟩ : S37)]) t227 (t227.length : Int) (wrap64 (x14_1 + 1))) else (none)))) else (none)) = some (r1, r2) := by rw [if_neg (show ¬ (false = true) by decide)] at H; exact H
                  clear H
                  have H := H1
                  clear H1
                  by_cases c19 : 0 < (t231.length : Int)
                  · rw [if_pos c19] at H
                    have HP := pf_way H
                    clear H
                    have LM := Aside0.mk HP.1
                    obtain ⟨y239, hy239⟩ : ∃ y_ : List (S37), y_ = (x4_1 ++ [(⟨rd t231 0, pf_b t231, pf_c t231⟩ : S37)]) := ⟨_, rfl⟩
                    have H' := Aside0.mk HP.2
                    clear HP
                    rw [← hy239] at H'
                    have Ny239 := Aside0.mk hy239
                    clear hy239
                    obtain ⟨Ao25, co25, eo25⟩ := Kd.R_slice HO_7.out
                    subst eo25
                    have c19b1 : decide (0 < t231.length) = true := decide_eq_true (by omega)
                    have p235 : 0 ≤ (0 : Int) := (by omega)
                    have q235 : 0 < (t231.length : Int) := c19
                    obtain ⟨ad235, e235, hx235_0⟩ := Kd.at_int (Kd.R_reads' HO_7.out).2.2 0 p235 q235
                    cases e235
                    have qi235 : (0 < t231.length) = True := eq_true (by omega)
                    (try rw [show ((0 : Int)).toNat = 0 from rfl] at hx235_0)
                    (try rw [Addr.add_zero'] at hx235_0)
                    have c19' := Aside0.mk c19
                    clear c19
                    replace p235 := eq_true p235
                    replace q235 := eq_true q235
                    go_upto_region 9 with (first | ((with_reducible refine gate_dst (N := 9) rfl ?_); (try (refine gate_guard (by rfl) ?_; dsimp only)); refine box_event ?hg (N := 9) ?hd (cs := #[.int .i64 0, .int .i64 0, .int .i64 0]) (t := 37) ?hr ?_; (case hd => rfl); (case hg => rfl); (case hr => first | (go_simp; done) | (go_simp; rfl)); intro gb236 hg w26 hbox hb; have n0_ := Aside0.mk (Kd.R_below (Kd.R_elderB (by (with_reducible repeat (first | apply Kd.R_alloc | apply Kd.R_drewN | apply Kd.R_drew)); exact HO_4.out) gb236 (Nat.le_of_eq hg.symm)) hb); have n1_ := Aside0.mk (Kd.R_below (by (with_reducible repeat (first | apply Kd.R_alloc | apply Kd.R_drewN | apply Kd.R_drew)); exact HO_7.out) hb); have n2_ := Aside0.mk (Kd.R_below (by (with_reducible repeat (first | apply Kd.R_alloc | apply Kd.R_drewN | apply Kd.R_drew)); exact HO_12.out) hb); have n3_ := Aside0.mk (below_step (by repeat (first | (with_reducible first | exact HB.out | apply below_alloc | apply pw_below_drewN | apply below_drew1) | exact HB.out)) hb); have n4_ := Aside0.mk (hbox); have n5_ := Aside0.mk ((by rw [hg]; exact (below_size (by repeat (first | (with_reducible first | exact HB.out | apply below_alloc | apply pw_below_drewN | apply below_drew1) | exact HB.out))) : w.heap.size ≤ gb236)); clear HO_4; clear HO_7; clear HO_12; clear HB; have HO_4 := n0_; have HO_7 := n1_; have HO_12 := n2_; have HB := n3_; have BK236 := n4_; have GE236 := n5_; clear n0_ n1_ n2_ n3_ n4_ n5_; clear hb hbox hg; have hcz27_0 : w26.cell? ⟨gb236, 0, none⟩ = some (.int .i64 0) := (blk_cell BK236.out 0).trans rfl; have hcz27_1 : w26.cell? ⟨gb236, 1, none⟩ = some (.int .i64 0) := (blk_cell BK236.out 1).trans rfl; have hcz27_2 : w26.cell? ⟨gb236, 2, none⟩ = some (.int .i64 0) := (blk_cell BK236.out 2).trans rfl; have hfz27_0 := blk_frozen BK236.out 0; have hfz27_1 := blk_frozen BK236.out 1; have hfz27_2 := blk_frozen BK236.out 2))
                    go_cut [9, 41] from 35 to 41 (fun v9 v41 wc => ∃ gb : Nat, v9 = .pointer (some ⟨gb, 0, none⟩) ∧ v41 = .bool (decide (1 < (t231.length : Int))) ∧ Aside0 (wc.heap[gb]? = some (.cells #[.int .i64 (rd t231 0), .int .i64 (-1), .int .i64 (-1)] 37 (0, 0))) ∧ Aside0 (w.heap.size ≤ gb) ∧ Aside0 (Kd.R k37 37 wc w.heap.size (fun k_ => True ∧ k_ ≠ gb) u4 x4_1) ∧ Aside0 (Kd.R (Kd.int .i64) 3 wc w.heap.size (fun _ => True) (.slice (some ad235) t231.length co25) t231) ∧ Aside0 (Kd.R Kd.string 9 wc w.heap.size (fun _ => True) (.slice (some ad230) t227.length co6) t227) ∧ Aside0 (Below w.heap.size w wc))
                    case first =>
                      go_wp2
                      go_meet
                      case rel => exact ⟨gb236, rfl, (by first | rfl | (simp; done)), ⟨by refine blk_put (cs := #[.int .i64 (rd t231 0), .int .i64 (-1), .int .i64 0]) ?_ 2 _ rfl; refine blk_put (cs := #[.int .i64 (rd t231 0), .int .i64 0, .int .i64 0]) ?_ 1 _ rfl; refine blk_put (cs := #[.int .i64 0, .int .i64 0, .int .i64 0]) ?_ 0 _ rfl; exact BK236.out⟩, ⟨GE236.out⟩, ⟨Kd.R_mono (Kd.R_far (p := ⟨gb236, 2, none⟩) (Kd.R_far (p := ⟨gb236, 1, none⟩) (Kd.R_far (p := ⟨gb236, 0, none⟩) (Kd.R_mono HO_4.out (fun k_ hk => (⟨hk, hk.2⟩ : _ ∧ k_ ≠ gb236))) (fun _ hk => hk.2) (.int .i64 (rd t231 0))) (fun _ hk => hk.2) (.int .i64 (-1))) (fun _ hk => hk.2) (.int .i64 (-1))) (fun _ hk => ⟨trivial, hk.2⟩)⟩, ⟨Kd.R_mono (Kd.R_far (p := ⟨gb236, 2, none⟩) (Kd.R_far (p := ⟨gb236, 1, none⟩) (Kd.R_far (p := ⟨gb236, 0, none⟩) (Kd.R_types HO_7.out BK236.out (by decide)) (fun _ hk => hk.2) (.int .i64 (rd t231 0))) (fun _ hk => hk.2) (.int .i64 (-1))) (fun _ hk => hk.2) (.int .i64 (-1))) (fun _ _ => trivial)⟩, ⟨Kd.R_mono (Kd.R_far (p := ⟨gb236, 2, none⟩) (Kd.R_far (p := ⟨gb236, 1, none⟩) (Kd.R_far (p := ⟨gb236, 0, none⟩) (Kd.R_types HO_12.out BK236.out (by decide)) (fun _ hk => hk.2) (.int .i64 (rd t231 0))) (fun _ hk => hk.2) (.int .i64 (-1))) (fun _ hk => hk.2) (.int .i64 (-1))) (fun _ _ => trivial)⟩, ⟨by repeat (first | (with_reducible first | exact HB.out | apply below_alloc | apply pw_below_drewN | apply below_drew1 | refine below_set ?_ GE236.out) | exact HB.out)⟩⟩
                    case rest =>
                      clear HO_4 HO_7 HO_12 HB BK236 GE236 hx235_0 p235 q235 qi235
                      obtain ⟨gb236, rfl, rfl, BK236, GE236, HO_4, HO_7, HO_12, HB⟩ := hcut
                      go_upto_if 41 with fail
                      go_cut [] from 41 to 45 (fun wc => Aside0 (wc.heap[gb236]? = some (.cells #[.int .i64 (rd t231 0), .int .i64 (pf_b t231), .int .i64 (-1)] 37 (0, 0))) ∧ Aside0 (w.heap.size ≤ gb236) ∧ Aside0 (Kd.R k37 37 wc w.heap.size (fun k_ => True ∧ k_ ≠ gb236) u4 x4_1) ∧ Aside0 (Kd.R (Kd.int .i64) 3 wc w.heap.size (fun _ => True) (.slice (some ad235) t231.length co25) t231) ∧ Aside0 (Kd.R Kd.string 9 wc w.heap.size (fun _ => True) (.slice (some ad230) t227.length co6) t227) ∧ Aside0 (Below w.heap.size w wc))
                      case first =>
                        by_cases hl : 1 < (t231.length : Int)
                        · have hl0 : decide (1 < (t231.length : Int)) = true := decide_eq_true hl
                          have hl1 : decide (1 < t231.length) = true := decide_eq_true (by omega)
                          have hv : pf_b t231 = rd t231 1 := if_pos hl
                          have p237 : 0 ≤ (1 : Int) := (by omega)
                          obtain ⟨ad237, e237, hx237_0⟩ := Kd.at_int (Kd.R_reads' HO_7.out).2.2 1 p237 hl
                          obtain rfl : ad235 = ad237 := (by injection e237)
                          (try simp only [show (1 : Int).toNat = 1 from rfl, Nat.reduceMul, Nat.reduceEqDiff, Go.Addr.add, ↓reduceIte] at hx237_0)
                          have qi237 : (1 < t231.length) = True := eq_true (by omega)
                          have hl' := Aside0.mk hl
                          replace hl := eq_true hl
                          replace p237 := eq_true p237
                          have hv' := Aside0.mk hv
                          clear hv e237
                          have hc1_0 := (blk_cell BK236.out 0).trans (show _ = some (Value.int .i64 (rd t231 0)) from rfl)
                          have hf1_0 := blk_frozen BK236.out 0
                          have hc1_1 := (blk_cell BK236.out 1).trans (show _ = some (Value.int .i64 (-1)) from rfl)
                          have hf1_1 := blk_frozen BK236.out 1
                          have hc1_2 := (blk_cell BK236.out 2).trans (show _ = some (Value.int .i64 (-1)) from rfl)
                          have hf1_2 := blk_frozen BK236.out 2
                          (try rw [hl0])
                          go_wp2
                          go_meet
                          case rel => exact ⟨⟨by rw [hv'.out]; exact blk_put (cs := #[.int .i64 (rd t231 0), .int .i64 (-1), .int .i64 (-1)]) BK236.out 1 _ rfl⟩, ⟨GE236.out⟩, ⟨Kd.R_mono (Kd.R_far (p := ⟨gb236, 1, none⟩) (Kd.R_mono HO_4.out (fun k_ hk => (⟨hk, hk.2⟩ : _ ∧ k_ ≠ gb236))) (fun _ hk => hk.2) (.int .i64 (rd t231 1))) (fun _ hk => ⟨trivial, hk.2⟩)⟩, ⟨Kd.R_mono (Kd.R_far (p := ⟨gb236, 1, none⟩) (Kd.R_types HO_7.out BK236.out (by decide)) (fun _ hk => hk.2) (.int .i64 (rd t231 1))) (fun _ _ => trivial)⟩, ⟨Kd.R_mono (Kd.R_far (p := ⟨gb236, 1, none⟩) (Kd.R_types HO_12.out BK236.out (by decide)) (fun _ hk => hk.2) (.int .i64 (rd t231 1))) (fun _ _ => trivial)⟩, ⟨by repeat (first | (with_reducible first | exact HB.out | apply below_alloc | apply pw_below_drewN | apply below_drew1 | refine below_set ?_ GE236.out) | exact HB.out)⟩⟩
                        · have hl0 : decide (1 < (t231.length : Int)) = false := decide_eq_false hl
                          have hl1 : decide (1 < t231.length) = false := decide_eq_false (by omega)
                          have hv' := Aside0.mk (show pf_b t231 = -1 from if_neg hl)
                          clear hl
                          (try rw [hl0])
                          go_wp2
                          go_meet
                          case rel => exact ⟨⟨by rw [hv'.out]; exact BK236.out⟩, ⟨GE236.out⟩, HO_4, HO_7, HO_12, HB⟩
                      case rest =>
                        clear HO_4 HO_7 HO_12 HB BK236 GE236
                        obtain ⟨BK236, GE236, HO_4, HO_7, HO_12, HB⟩ := hcut
                        go_upto_if 48 with fail
                        go_cut [] from 46 to 52 (fun wc => Aside0 (wc.heap[gb236]? = some (.cells #[.int .i64 (rd t231 0), .int .i64 (pf_b t231), .int .i64 (pf_c t231)] 37 (0, 0))) ∧ Aside0 (w.heap.size ≤ gb236) ∧ Aside0 (Kd.R k37 37 wc w.heap.size (fun k_ => True ∧ k_ ≠ gb236) u4 x4_1) ∧ Aside0 (Kd.R (Kd.int .i64) 3 wc w.heap.size (fun _ => True) (.slice (some ad235) t231.length co25) t231) ∧ Aside0 (Kd.R Kd.string 9 wc w.heap.size (fun _ => True) (.slice (some ad230) t227.length co6) t227) ∧ Aside0 (Below w.heap.size w wc))
                        case first =>
                          by_cases hl : 2 < (t231.length : Int)
                          · have hl0 : decide (2 < (t231.length : Int)) = true := decide_eq_true hl
                            have hl1 : decide (2 < t231.length) = true := decide_eq_true (by omega)
                            have hv : pf_c t231 = rd t231 2 := if_pos hl
                            have p237 : 0 ≤ (2 : Int) := (by omega)
                            obtain ⟨ad237, e237, hx237_0⟩ := Kd.at_int (Kd.R_reads' HO_7.out).2.2 2 p237 hl
                            obtain rfl : ad235 = ad237 := (by injection e237)
                            (try simp only [show (2 : Int).toNat = 2 from rfl, Nat.reduceMul, Nat.reduceEqDiff, Go.Addr.add, ↓reduceIte] at hx237_0)
                            have qi237 : (2 < t231.length) = True := eq_true (by omega)
                            have hl' := Aside0.mk hl
                            replace hl := eq_true hl
                            replace p237 := eq_true p237
                            have hv' := Aside0.mk hv
                            clear hv e237
                            have hc2_0 := (blk_cell BK236.out 0).trans (show _ = some (Value.int .i64 (rd t231 0)) from rfl)
                            have hf2_0 := blk_frozen BK236.out 0
                            have hc2_1 := (blk_cell BK236.out 1).trans (show _ = some (Value.int .i64 (pf_b t231)) from rfl)
                            have hf2_1 := blk_frozen BK236.out 1
                            have hc2_2 := (blk_cell BK236.out 2).trans (show _ = some (Value.int .i64 (-1)) from rfl)
                            have hf2_2 := blk_frozen BK236.out 2
                            (try rw [hl0])
                            go_wp2
                            go_meet
                            case rel => exact ⟨⟨by rw [hv'.out]; exact blk_put (cs := #[.int .i64 (rd t231 0), .int .i64 (pf_b t231), .int .i64 (-1)]) BK236.out 2 _ rfl⟩, ⟨GE236.out⟩, ⟨Kd.R_mono (Kd.R_far (p := ⟨gb236, 2, none⟩) (Kd.R_mono HO_4.out (fun k_ hk => (⟨hk, hk.2⟩ : _ ∧ k_ ≠ gb236))) (fun _ hk => hk.2) (.int .i64 (rd t231 2))) (fun _ hk => ⟨trivial, hk.2⟩)⟩, ⟨Kd.R_mono (Kd.R_far (p := ⟨gb236, 2, none⟩) (Kd.R_types HO_7.out BK236.out (by decide)) (fun _ hk => hk.2) (.int .i64 (rd t231 2))) (fun _ _ => trivial)⟩, ⟨Kd.R_mono (Kd.R_far (p := ⟨gb236, 2, none⟩) (Kd.R_types HO_12.out BK236.out (by decide)) (fun _ hk => hk.2) (.int .i64 (rd t231 2))) (fun _ _ => trivial)⟩, ⟨by repeat (first | (with_reducible first | exact HB.out | apply below_alloc | apply pw_below_drewN | apply below_drew1 | refine below_set ?_ GE236.out) | exact HB.out)⟩⟩
                          · have hl0 : decide (2 < (t231.length : Int)) = false := decide_eq_false hl
                            have hl1 : decide (2 < t231.length) = false := decide_eq_false (by omega)
                            have hv' := Aside0.mk (show pf_c t231 = -1 from if_neg hl)
                            clear hl
                            (try rw [hl0])
                            go_wp2
                            go_meet
                            case rel => exact ⟨⟨by rw [hv'.out]; exact BK236.out⟩, ⟨GE236.out⟩, HO_4, HO_7, HO_12, HB⟩
                        case rest =>
                          clear HO_4 HO_7 HO_12 HB BK236 GE236
                          obtain ⟨BK236, GE236, HO_4, HO_7, HO_12, HB⟩ := hcut
                          have hc3_0 := (blk_cell BK236.out 0).trans (show _ = some (Value.int .i64 (rd t231 0)) from rfl)
                          have hf3_0 := blk_frozen BK236.out 0
                          have hc3_1 := (blk_cell BK236.out 1).trans (show _ = some (Value.int .i64 (pf_b t231)) from rfl)
                          have hf3_1 := blk_frozen BK236.out 1
                          have hc3_2 := (blk_cell BK236.out 2).trans (show _ = some (Value.int .i64 (pf_c t231)) from rfl)
                          have hf3_2 := blk_frozen BK236.out 2
                          go_wp2_with (first | ((with_reducible refine gate_builtin (b := .append) (xs := #[.tmp 53, .tmp 55]) rfl ?_); (try (refine gate_guard (by rfl) ?_; dsimp only)); at_builtin; refine Kd.R_append k37 (w0 := w) w.heap.size rfl (.tmp 53) (.tmp 55) 26 37 (.agg #[(.int .i64 0), (.int .i64 0), (.int .i64 0)]) 24 rfl Tryd.underlying26 info37 rfl (by decide) (by omega) u4 x4_1 (⟨rd t231 0, pf_b t231, pf_c t231⟩ : S37) [.int .i64 (rd t231 0), .int .i64 (pf_b t231), .int .i64 (pf_c t231)] (fun k_ => k_ ≠ gb236) (fun _ => False) rfl (by first | (go_simp; done) | (go_simp; rfl)) ?aP (fun _ hk => hk.elim) ?aF ?aO ?aB ?aS ?aL ?_; (case aP => exact k37_mkM _ _ _ (⟨rd t231 0, pf_b t231, pf_c t231⟩ : S37)); (case aB => exact (by repeat (first | (with_reducible first | exact HB.out | apply below_alloc | apply pw_below_drewN | apply below_drew1 | refine below_set ?_ GE236.out) | exact HB.out))); (case aF => exact (fun k_ hk => Kd.freshB (g := gb236) (o := .cells #[.int .i64 (rd t231 0), .int .i64 (pf_b t231), .int .i64 (pf_c t231)] 37 (0, 0)) (by (with_reducible repeat (first | refine blk_drewN ?_ _ | refine blk_drew ?_ | refine blk_alloc ?_ _)); exact BK236.out) k_ hk)); (case aO => exact (by (with_reducible repeat (first | apply Kd.R_alloc | apply Kd.R_drewN | apply Kd.R_drew)); exact Kd.R_mono HO_4.out (fun _ hk => hk.2))); (case aS => exact (below_size (by repeat (first | (with_reducible first | exact HB.out | apply below_alloc | apply pw_below_drewN | apply below_drew1 | refine below_set ?_ GE236.out) | exact HB.out)))); (case aL => have := LM.out; omega); intro v240 w28 ho hb hg hat; rw [← Ny239.out] at ho; have n0_ := Aside0.mk (Kd.R_over' (by (with_reducible repeat (first | apply Kd.R_alloc | apply Kd.R_drewN | apply Kd.R_drew)); exact HO_7.out) (Kd.R_typed (by (with_reducible repeat (first | apply Kd.R_alloc | apply Kd.R_drewN | apply Kd.R_drew)); exact HO_4.out)) (by decide) hg); have n1_ := Aside0.mk (Kd.R_over' (by (with_reducible repeat (first | apply Kd.R_alloc | apply Kd.R_drewN | apply Kd.R_drew)); exact HO_12.out) (Kd.R_typed (by (with_reducible repeat (first | apply Kd.R_alloc | apply Kd.R_drewN | apply Kd.R_drew)); exact HO_4.out)) (by decide) hg); have n3_ := Aside0.mk (hb); have n4_ := Aside0.mk (ho); clear HO_7; clear HO_12; clear HB; clear HO_4; have HO_7 := n0_; have HO_12 := n1_; have HB := n3_; have HO241 := n4_; clear n0_ n1_ n3_ n4_; clear ho hb hg hat))
                          go_roundg kj10
                          case measure => have := HK1.out; have := HJ10.out; omega
                          case rel => exact ⟨(y239), (wrap64 (x14_1 + 1)), (by first | rfl | (simp; done) | (simp [*]; done)), H', ⟨by have := HK1.out; have := HJ10.out; omega⟩, ⟨by (with_reducible repeat (first | apply Kd.R_alloc | apply Kd.R_drewN | apply Kd.R_drew)); exact Kd.R_mono HO241.out (fun _ hk => trivial)⟩, ⟨by (with_reducible repeat (first | apply Kd.R_alloc | apply Kd.R_drewN | apply Kd.R_drew)); exact HO_12.out⟩, ⟨by repeat (first | (with_reducible first | exact HB.out | apply below_alloc | apply pw_below_drewN | apply below_drew1) | exact HB.out)⟩⟩
                  · rw [if_neg c19] at H
                    exact absurd H (by simp)
          · rw [if_neg c9] at H
            exact absurd H (by simp)
        · rw [if_neg c8] at H
          exact absurd H (by simp)
      · rw [if_neg c7] at H
        have c7b0 : decide (x14_1 < (t227.length : Int)) = false := decide_eq_false c7
        clear c7
        replace H := Option.bind_eq_some_iff.mp H
        obtain ⟨t252, A460, H⟩ := H
        replace H : (if t252 = true then ((impl_familyText.f k1 x4_1).bind fun t253 => (if t253.toList = a0.toList then (some (x4_1, true)) else (some (([] : List (S37)), false)))) else (some (([] : List (S37)), false))) = some (r1, r2) := H
        have A46 := Aside0.mk A460
        clear A460
        by_cases c47 : t252 = true
        · subst c47
          have H1 : ((impl_familyText.f k1 x4_1).bind fun t253 => (if t253.toList = a0.toList then (some (x4_1, true)) else (some (([] : List (S37)), false)))) = some (r1, r2) := by rw [if_pos rfl] at H; exact H
          clear H
          have H := H1
          clear H1
          replace H := Option.bind_eq_some_iff.mp H
          obtain ⟨t253, A480, H⟩ := H
          replace H : (if t253.toList = a0.toList then (some (x4_1, true)) else (some (([] : List (S37)), false))) = some (r1, r2) := H
          have A48 := Aside0.mk A480
          clear A480
          by_cases c49 : t253.toList = a0.toList
          · rw [if_pos c49] at H
            have c49b0 : (t253.toList == a0.toList) = true := beq_iff_eq.mpr c49
            have c49b1 : (t253.toList != a0.toList) = false := bne_eq_false_iff_eq.mpr c49
            clear c49
            simp only [Option.some.injEq, Prod.mk.injEq] at H
            obtain ⟨rfl, rfl⟩ := H
            obtain ⟨Ao50, co50, eo50⟩ := Kd.R_slice HO_4.out
            subst eo50
            go_wp2_with (first | ((with_reducible refine gate_callee (f := 17) rfl ?_); refine goesL_ (some 59) rfl rfl Tryd.func17 (by kernel_rfl) rfl #[.slice Ao50 x4_1.length co50] rfl (by (try simp only [List.map_toArray, List.map_cons, List.map_nil]); first | done | rfl | (simp only [List.length_drop, List.length_take]; rfl)) ?_; (with_reducible refine (impl_IsFamily.calls k1 _ _ x4_1 true _ ?side1 ?side2 A46.out).mono ?_); (case side1 => repeat (first | exact (Kd.R_reads' HO_4.out).2.2 | (with_reducible refine Kd.C_alloc ?_ _) | (with_reducible refine Kd.C_drewN ?_ _) | (with_reducible refine Kd.C_drew ?_))); (case side2 => exact (Kd.R_reads' HO_4.out).2.1); rintro e w51 ⟨rfl, hb⟩; refine ⟨_, rfl, ?_⟩; have n0_ := Aside0.mk (Kd.R_below (by (with_reducible repeat (first | apply Kd.R_alloc | apply Kd.R_drewN | apply Kd.R_drew)); exact HO_4.out) hb); have n1_ := Aside0.mk (Kd.R_below (by (with_reducible repeat (first | apply Kd.R_alloc | apply Kd.R_drewN | apply Kd.R_drew)); exact HO_12.out) hb); have n2_ := Aside0.mk (below_step (by repeat (first | (with_reducible first | exact HB.out | apply below_alloc | apply pw_below_drewN | apply below_drew1) | exact HB.out)) hb); clear HO_4; clear HO_12; clear HB; have HO_4 := n0_; have HO_12 := n1_; have HB := n2_; clear n0_ n1_ n2_; (try clear hb); (try clear hb2); (try clear hk); (try clear hi)) | (go_at_call 18; (with_reducible refine (impl_familyText.calls k1 _ _ x4_1 t253 _ ?side1 ?side2 A48.out ?tb_).mono ?_); (case side1 => repeat (first | exact (Kd.R_reads' HO_4.out).2.2 | (with_reducible refine Kd.C_alloc ?_ _) | (with_reducible refine Kd.C_drewN ?_ _) | (with_reducible refine Kd.C_drew ?_))); (case side2 => exact (Kd.R_reads' HO_4.out).2.1); (case tb_ => exact HTb_.out.tb.below (by repeat (first | (with_reducible first | exact HB.out | apply below_alloc | apply pw_below_drewN | apply below_drew1) | exact HB.out))); rintro e w52 ⟨rfl, hb⟩; have n0_ := Aside0.mk (Kd.R_below (by (with_reducible repeat (first | apply Kd.R_alloc | apply Kd.R_drewN | apply Kd.R_drew)); exact HO_4.out) hb); have n1_ := Aside0.mk (Kd.R_below (by (with_reducible repeat (first | apply Kd.R_alloc | apply Kd.R_drewN | apply Kd.R_drew)); exact HO_12.out) hb); have n2_ := Aside0.mk (below_step (by repeat (first | (with_reducible first | exact HB.out | apply below_alloc | apply pw_below_drewN | apply below_drew1) | exact HB.out)) hb); clear HO_4; clear HO_12; clear HB; have HO_4 := n0_; have HO_12 := n1_; have HB := n2_; clear n0_ n1_ n2_; (try clear hb); (try clear hb2); (try clear hk); (try clear hi)))
            go_ret2
            exact ⟨_, by first | rfl | (simp [errW_none, errW_some] <;> rfl) | (simp [*, errW_none, errW_some] <;> rfl), by (with_reducible repeat (first | apply Kd.R_alloc | apply Kd.R_drewN | apply Kd.R_drew)); exact HO_4.out, by repeat (first | (with_reducible first | exact HB.out | apply below_alloc | apply pw_below_drewN | apply below_drew1) | exact HB.out)⟩
          · rw [if_neg c49] at H
            have c49b0 : (t253.toList == a0.toList) = false := beq_eq_false_iff_ne.mpr c49
            have c49b1 : (t253.toList != a0.toList) = true := bne_iff_ne.mpr c49
            simp only [Option.some.injEq, Prod.mk.injEq] at H
            obtain ⟨rfl, rfl⟩ := H
            obtain ⟨Ao53, co53, eo53⟩ := Kd.R_slice HO_4.out
            subst eo53
            go_wp2_with (first | ((with_reducible refine gate_callee (f := 17) rfl ?_); refine goesL_ (some 59) rfl rfl Tryd.func17 (by kernel_rfl) rfl #[.slice Ao53 x4_1.length co53] rfl (by (try simp only [List.map_toArray, List.map_cons, List.map_nil]); first | done | rfl | (simp only [List.length_drop, List.length_take]; rfl)) ?_; (with_reducible refine (impl_IsFamily.calls k1 _ _ x4_1 true _ ?side1 ?side2 A46.out).mono ?_); (case side1 => repeat (first | exact (Kd.R_reads' HO_4.out).2.2 | (with_reducible refine Kd.C_alloc ?_ _) | (with_reducible refine Kd.C_drewN ?_ _) | (with_reducible refine Kd.C_drew ?_))); (case side2 => exact (Kd.R_reads' HO_4.out).2.1); rintro e w54 ⟨rfl, hb⟩; refine ⟨_, rfl, ?_⟩; have n0_ := Aside0.mk (Kd.R_below (by (with_reducible repeat (first | apply Kd.R_alloc | apply Kd.R_drewN | apply Kd.R_drew)); exact HO_4.out) hb); have n1_ := Aside0.mk (Kd.R_below (by (with_reducible repeat (first | apply Kd.R_alloc | apply Kd.R_drewN | apply Kd.R_drew)); exact HO_12.out) hb); have n2_ := Aside0.mk (below_step (by repeat (first | (with_reducible first | exact HB.out | apply below_alloc | apply pw_below_drewN | apply below_drew1) | exact HB.out)) hb); clear HO_4; clear HO_12; clear HB; have HO_4 := n0_; have HO_12 := n1_; have HB := n2_; clear n0_ n1_ n2_; (try clear hb); (try clear hb2); (try clear hk); (try clear hi)) | (go_at_call 18; (with_reducible refine (impl_familyText.calls k1 _ _ x4_1 t253 _ ?side1 ?side2 A48.out ?tb_).mono ?_); (case side1 => repeat (first | exact (Kd.R_reads' HO_4.out).2.2 | (with_reducible refine Kd.C_alloc ?_ _) | (with_reducible refine Kd.C_drewN ?_ _) | (with_reducible refine Kd.C_drew ?_))); (case side2 => exact (Kd.R_reads' HO_4.out).2.1); (case tb_ => exact HTb_.out.tb.below (by repeat (first | (with_reducible first | exact HB.out | apply below_alloc | apply pw_below_drewN | apply below_drew1) | exact HB.out))); rintro e w55 ⟨rfl, hb⟩; have n0_ := Aside0.mk (Kd.R_below (by (with_reducible repeat (first | apply Kd.R_alloc | apply Kd.R_drewN | apply Kd.R_drew)); exact HO_4.out) hb); have n1_ := Aside0.mk (Kd.R_below (by (with_reducible repeat (first | apply Kd.R_alloc | apply Kd.R_drewN | apply Kd.R_drew)); exact HO_12.out) hb); have n2_ := Aside0.mk (below_step (by repeat (first | (with_reducible first | exact HB.out | apply below_alloc | apply pw_below_drewN | apply below_drew1) | exact HB.out)) hb); clear HO_4; clear HO_12; clear HB; have HO_4 := n0_; have HO_12 := n1_; have HB := n2_; clear n0_ n1_ n2_; (try clear hb); (try clear hb2); (try clear hk); (try clear hi)))
            go_ret2
            exact ⟨_, by first | rfl | (simp [errW_none, errW_some] <;> rfl) | (simp [*, errW_none, errW_some] <;> rfl), by first | exact Kd.R_nil _ _ _ _ _ | exact Kd.N_nil _ _ _ _ _ | exact Kd.V_nil _ _ _ _ _ | exact Kd.Q_nil _ _ _ _ _ | exact Kd.S_nil _ _ _ _ _, by repeat (first | (with_reducible first | exact HB.out | apply below_alloc | apply pw_below_drewN | apply below_drew1) | exact HB.out)⟩
        · replace c47 := Bool.eq_false_iff.mpr c47
          subst c47
          have H1 : (some (([] : List (S37)), false)) = some (r1, r2) := by rw [if_neg (show ¬ (false = true) by decide)] at H; exact H
          clear H
          have H := H1
          clear H1
          simp only [Option.some.injEq, Prod.mk.injEq] at H
          obtain ⟨rfl, rfl⟩ := H
          obtain ⟨Ao56, co56, eo56⟩ := Kd.R_slice HO_4.out
          subst eo56
          go_wp2_with (first | ((with_reducible refine gate_callee (f := 17) rfl ?_); refine goesL_ (some 59) rfl rfl Tryd.func17 (by kernel_rfl) rfl #[.slice Ao56 x4_1.length co56] rfl (by (try simp only [List.map_toArray, List.map_cons, List.map_nil]); first | done | rfl | (simp only [List.length_drop, List.length_take]; rfl)) ?_; (with_reducible refine (impl_IsFamily.calls k1 _ _ x4_1 false _ ?side1 ?side2 A46.out).mono ?_); (case side1 => repeat (first | exact (Kd.R_reads' HO_4.out).2.2 | (with_reducible refine Kd.C_alloc ?_ _) | (with_reducible refine Kd.C_drewN ?_ _) | (with_reducible refine Kd.C_drew ?_))); (case side2 => exact (Kd.R_reads' HO_4.out).2.1); rintro e w57 ⟨rfl, hb⟩; refine ⟨_, rfl, ?_⟩; have n0_ := Aside0.mk (Kd.R_below (by (with_reducible repeat (first | apply Kd.R_alloc | apply Kd.R_drewN | apply Kd.R_drew)); exact HO_4.out) hb); have n1_ := Aside0.mk (Kd.R_below (by (with_reducible repeat (first | apply Kd.R_alloc | apply Kd.R_drewN | apply Kd.R_drew)); exact HO_12.out) hb); have n2_ := Aside0.mk (below_step (by repeat (first | (with_reducible first | exact HB.out | apply below_alloc | apply pw_below_drewN | apply below_drew1) | exact HB.out)) hb); clear HO_4; clear HO_12; clear HB; have HO_4 := n0_; have HO_12 := n1_; have HB := n2_; clear n0_ n1_ n2_; (try clear hb); (try clear hb2); (try clear hk); (try clear hi)))
          go_ret2
          exact ⟨_, by first | rfl | (simp [errW_none, errW_some] <;> rfl) | (simp [*, errW_none, errW_some] <;> rfl), by first | exact Kd.R_nil _ _ _ _ _ | exact Kd.N_nil _ _ _ _ _ | exact Kd.V_nil _ _ _ _ _ | exact Kd.Q_nil _ _ _ _ _ | exact Kd.S_nil _ _ _ _ _, by repeat (first | (with_reducible first | exact HB.out | apply below_alloc | apply pw_below_drewN | apply below_drew1) | exact HB.out)⟩

end Go.Proofs.YtllihaahppelhaaDoor.P
