/- Calls of the functions of the given program return what the plain Lean functions of the same names return; and a row of a law out of its pure statement. Written by a program of this session out of the translation; Lean checks it. No condition. -/
import Derived.Test.YtllihaahppelhaaPx0
import Derived.Test.YtllihaahppelhaaPx12
import Derived.Test.YtllihaahppelhaaPx15
import Derived.Test.YtllihaahppelhaaPx17
import Derived.Test.YtllihaahppelhaaPxHimplqisGrand
import Derived.Test.YtllihaahppelhaaPxHimplqisAunt
import Derived.Test.YtllihaahppelhaaPxHimplqareCousins
import Derived.Test.YtllihaahppelhaaHlp
namespace Go.Proofs.Ytllihaahppelhaa.P
open Go.RowKit Go.Proofs.YtllihaahppelhaaW.PrintWords Go.Proofs.YtllihaahppelhaaW.PrintLast Go.Proofs.YtllihaahppelhaaW.PrintMore
attribute [local go_sem] max2_int min2_int max_two min_two max_three min_three max_four min_four   -- for this text's walks alone
set_option linter.unusedVariables false
set_option linter.unusedSimpArgs false

/-! ### impl_RelationOf: function 33, by hand -/
-- IMPORT Derived.Test.YtllihaahppelhaaHlp
def impl_RelationOf.txt (e p1 p2 s g1 g2 u1 u2 c b1 b2 m : Bool) : ByteArray :=
  if e = true then ⟨#[115, 101, 108, 102]⟩ else if p1 = true then ⟨#[112, 97, 114, 101, 110, 116]⟩ else if p2 = true then ⟨#[99, 104, 105, 108, 100]⟩ else if s = true then ⟨#[115, 105, 98, 108, 105, 110, 103]⟩ else
  if g1 = true then ⟨#[103, 114, 97, 110, 100, 112, 97, 114, 101, 110, 116]⟩ else if g2 = true then ⟨#[103, 114, 97, 110, 100, 99, 104, 105, 108, 100]⟩ else if u1 = true then ⟨#[97, 117, 110, 116]⟩ else if u2 = true then ⟨#[110, 105, 101, 99, 101]⟩ else
  if c = true then ⟨#[99, 111, 117, 115, 105, 110]⟩ else if b1 = true then ⟨#[97, 110, 99, 101, 115, 116, 111, 114]⟩ else if b2 = true then ⟨#[100, 101, 115, 99, 101, 110, 100, 97, 110, 116]⟩ else if m = true then ⟨#[107, 105, 110]⟩ else ⟨#[110, 111, 110, 101]⟩
/-- All that is asked, asked at once: for a family all of it is told. -/
def impl_RelationOf.all (k : Nat) (l0 : List S49) (a1 a2 : Int) : Option ByteArray :=
  (impl_isParent.f k l0 a1 a2).bind fun p1 => (impl_isParent.f k l0 a2 a1).bind fun p2 => (impl_areSiblings.f l0 a1 a2).bind fun s => (impl_isGrand.f l0 a1 a2).bind fun g1 => (impl_isGrand.f l0 a2 a1).bind fun g2 =>
  (impl_isAunt.f l0 a1 a2).bind fun u1 => (impl_isAunt.f l0 a2 a1).bind fun u2 => (impl_areCousins.f l0 a1 a2).bind fun c => (impl_ancestors.f k l0 a2).bind fun L2 => (slices_Contains_int_int.f k L2 a1).bind fun b1 =>
  (impl_ancestors.f k l0 a1).bind fun L1 => (slices_Contains_int_int.f k L1 a2).bind fun b2 => (impl_commonAncestors.f k l0 a1 a2).bind fun M => some (impl_RelationOf.txt (a1 == a2) p1 p2 s g1 g2 u1 u2 c b1 b2 (decide (0 < M.length)))
def impl_RelationOf.f (k : Nat) (l0 : List S49) (a1 a2 : Int) : Option (ByteArray × Bool) :=
  (impl_hasKin.f k l0 [a1, a2]).bind fun t => if t = true then (impl_RelationOf.all k l0 a1 a2).bind fun x => some (x, true) else some (⟨#[]⟩, false)
theorem impl_RelationOf.mono (l0 : List S49) (a1 a2 : Int) (k : Nat) : LeO (impl_RelationOf.f k l0 a1 a2) (impl_RelationOf.f (k + 1) l0 a1 a2) := by
  unfold impl_RelationOf.f impl_RelationOf.all
  repeat' first
      | exact impl_hasKin.mono _ _ _
      | exact impl_isParent.mono _ _ _ _
      | exact impl_ancestors.mono _ _ _
      | exact slices_Contains_int_int.mono _ _ _
      | exact impl_commonAncestors.mono _ _ _ _
      | (with_reducible exact LeO.refl _)
      | (with_reducible refine LeO.ite ?_ ?_)
      | (with_reducible refine LeO.bind ?_ (fun _ => ?_))
set_option maxHeartbeats 8000000 in
set_option maxRecDepth 100000 in
theorem impl_RelationOf.calls (k : Nat) (A0 : Option Addr) (c0 : Nat) (l0 : List S49) (a1 a2 : Int) (r1 : ByteArray) (r2 : Bool) (w : World) (hr0 : Kd.C k49 w A0 l0.length l0) (hc0 : l0.length ≤ c0) (h : impl_RelationOf.f k l0 a1 a2 = some (r1, r2)) :
    Calls Try.prog 33 #[.slice A0 l0.length c0, .int .i64 a1, .int .i64 a2] w fun e w' => e = .returned (.tuple #[.string r1, .bool r2]) ∧ Below w.heap.size w w' := by
  unfold impl_RelationOf.f at h
  obtain ⟨t, ht, h⟩ := Option.bind_eq_some_iff.1 h
  have hb0 : Below w.heap.size w (w.alloc (.cells #[.int .i64 a1, .int .i64 a2] 3)) := (Below.refl _ w).alloc (Nat.le_refl _) _
  have hlit := own_lit w w.heap.size 3 .i64 [a1, a2] (Nat.le_refl _) (by simp)
  have hC2 : Kd.C (Kd.int .i64) (w.alloc (.cells #[.int .i64 a1, .int .i64 a2] 3)) (some ⟨w.heap.size, 0, none⟩) ([a1, a2] : List Int).length [a1, a2] := Kd.C_of_reads (d := (0 : Int)) (h1 := fun _ => rfl) (own_reads' hlit)
  have hkin := impl_hasKin.calls k A0 c0 l0 (some ⟨w.heap.size, 0, none⟩) 2 [a1, a2] t (w.alloc (.cells #[.int .i64 a1, .int .i64 a2] 3)) (Kd.C_below hr0 hb0) hc0 hC2 (by simp) ht
  have HK : Aside0 (Calls Try.prog 44 #[.slice A0 l0.length c0, .slice (some ⟨w.heap.size, 0, none⟩) 2 2] (w.alloc (.cells #[.int .i64 a1, .int .i64 a2] 3)) fun e w' => e = .returned (.bool t) ∧ Below w.heap.size w w') := ⟨hkin.mono fun e w' he => ⟨he.1, below_step hb0 he.2⟩⟩
  clear hkin hC2 hlit hb0 ht
  cases t with
  | false =>
    rw [if_neg (by simp)] at h
    obtain ⟨rfl, rfl⟩ := Prod.mk.inj (Option.some.inj h)
    clear h hr0 hc0
    go_enter Try.func33, Try.ntmps33
    go_wp2_with (go_at_call 44; refine HK.out.mono ?_; rintro e w' ⟨rfl, hb⟩; have HB := Aside0.mk hb; clear hb)
    go_ret2
    exact ⟨rfl, HB.out⟩
  | true =>
    rw [if_pos rfl] at h
    obtain ⟨x, hx, h⟩ := Option.bind_eq_some_iff.1 h
    obtain ⟨rfl, rfl⟩ := Prod.mk.inj (Option.some.inj h)
    clear h
    unfold impl_RelationOf.all at hx
    obtain ⟨p1, e1, hx⟩ := Option.bind_eq_some_iff.1 hx
    obtain ⟨p2, e2, hx⟩ := Option.bind_eq_some_iff.1 hx
    obtain ⟨s, e3, hx⟩ := Option.bind_eq_some_iff.1 hx
    obtain ⟨g1, e4, hx⟩ := Option.bind_eq_some_iff.1 hx
    obtain ⟨g2, e5, hx⟩ := Option.bind_eq_some_iff.1 hx
    obtain ⟨u1, e6, hx⟩ := Option.bind_eq_some_iff.1 hx
    obtain ⟨u2, e7, hx⟩ := Option.bind_eq_some_iff.1 hx
    obtain ⟨c, e8, hx⟩ := Option.bind_eq_some_iff.1 hx
    obtain ⟨L2, e9, hx⟩ := Option.bind_eq_some_iff.1 hx
    obtain ⟨b1, e10, hx⟩ := Option.bind_eq_some_iff.1 hx
    obtain ⟨L1, e11, hx⟩ := Option.bind_eq_some_iff.1 hx
    obtain ⟨b2, e12, hx⟩ := Option.bind_eq_some_iff.1 hx
    obtain ⟨M, e13, hx⟩ := Option.bind_eq_some_iff.1 hx
    obtain rfl := Option.some.inj hx
    clear hx
    have st := fun (W w' : World) (hB : Below w.heap.size w W) (hb : Below W.heap.size W w') => below_step hB hb
    have HC := fun (W : World) (hB : Below w.heap.size w W) => Kd.C_below hr0 hB
    have H1 : Aside0 (∀ W, Below w.heap.size w W → Calls Try.prog 61 #[.slice A0 l0.length c0, .int .i64 a1, .int .i64 a2] W fun e w' => e = .returned (.bool p1) ∧ Below w.heap.size w w') := ⟨fun W hB => (impl_isParent.calls k A0 c0 l0 a1 a2 p1 W (HC W hB) hc0 e1).mono fun e w' he => ⟨he.1, st W w' hB he.2⟩⟩
    have H2 : Aside0 (∀ W, Below w.heap.size w W → Calls Try.prog 61 #[.slice A0 l0.length c0, .int .i64 a2, .int .i64 a1] W fun e w' => e = .returned (.bool p2) ∧ Below w.heap.size w w') := ⟨fun W hB => (impl_isParent.calls k A0 c0 l0 a2 a1 p2 W (HC W hB) hc0 e2).mono fun e w' he => ⟨he.1, st W w' hB he.2⟩⟩
    have H3 : Aside0 (∀ W, Below w.heap.size w W → Calls Try.prog 62 #[.slice A0 l0.length c0, .int .i64 a1, .int .i64 a2] W fun e w' => e = .returned (.bool s) ∧ Below w.heap.size w w') := ⟨fun W hB => (impl_areSiblings.calls A0 c0 l0 a1 a2 s W (HC W hB) hc0 e3).mono fun e w' he => ⟨he.1, st W w' hB he.2⟩⟩
    have H4 : Aside0 (∀ W, Below w.heap.size w W → Calls Try.prog 63 #[.slice A0 l0.length c0, .int .i64 a1, .int .i64 a2] W fun e w' => e = .returned (.bool g1) ∧ Below w.heap.size w w') := ⟨fun W hB => (impl_isGrand.calls A0 c0 l0 a1 a2 g1 W (HC W hB) hc0 e4).mono fun e w' he => ⟨he.1, st W w' hB he.2⟩⟩
    have H5 : Aside0 (∀ W, Below w.heap.size w W → Calls Try.prog 63 #[.slice A0 l0.length c0, .int .i64 a2, .int .i64 a1] W fun e w' => e = .returned (.bool g2) ∧ Below w.heap.size w w') := ⟨fun W hB => (impl_isGrand.calls A0 c0 l0 a2 a1 g2 W (HC W hB) hc0 e5).mono fun e w' he => ⟨he.1, st W w' hB he.2⟩⟩
    have H6 : Aside0 (∀ W, Below w.heap.size w W → Calls Try.prog 64 #[.slice A0 l0.length c0, .int .i64 a1, .int .i64 a2] W fun e w' => e = .returned (.bool u1) ∧ Below w.heap.size w w') := ⟨fun W hB => (impl_isAunt.calls A0 c0 l0 a1 a2 u1 W (HC W hB) hc0 e6).mono fun e w' he => ⟨he.1, st W w' hB he.2⟩⟩
    have H7 : Aside0 (∀ W, Below w.heap.size w W → Calls Try.prog 64 #[.slice A0 l0.length c0, .int .i64 a2, .int .i64 a1] W fun e w' => e = .returned (.bool u2) ∧ Below w.heap.size w w') := ⟨fun W hB => (impl_isAunt.calls A0 c0 l0 a2 a1 u2 W (HC W hB) hc0 e7).mono fun e w' he => ⟨he.1, st W w' hB he.2⟩⟩
    have H8 : Aside0 (∀ W, Below w.heap.size w W → Calls Try.prog 65 #[.slice A0 l0.length c0, .int .i64 a1, .int .i64 a2] W fun e w' => e = .returned (.bool c) ∧ Below w.heap.size w w') := ⟨fun W hB => (impl_areCousins.calls A0 c0 l0 a1 a2 c W (HC W hB) hc0 e8).mono fun e w' he => ⟨he.1, st W w' hB he.2⟩⟩
    have hrow : ∀ (W w' : World) (v : Value) (L : List Int), Below w.heap.size w W → Kd.R (Kd.int .i64) 3 w' W.heap.size (fun _ => True) v L → Below W.heap.size W w' → ∃ A cc, v = .slice A L.length cc ∧ Aside0 (Kd.C (Kd.int .i64) w' A L.length L ∧ L.length ≤ cc ∧ Below w.heap.size w w') := by
      intro W w' v L hB hR hb
      obtain ⟨A, cc, rfl, hl, hC⟩ := Kd.R_reads hR
      exact ⟨A, cc, rfl, ⟨hC, hl, st W w' hB hb⟩⟩
    have H9 : Aside0 (∀ W, Below w.heap.size w W → Calls Try.prog 56 #[.slice A0 l0.length c0, .int .i64 a2] W fun e w' => ∃ A cc, e = .returned (.slice A L2.length cc) ∧ Aside0 (Kd.C (Kd.int .i64) w' A L2.length L2 ∧ L2.length ≤ cc ∧ Below w.heap.size w w')) := ⟨fun W hB => (impl_ancestors.calls k A0 c0 l0 a2 L2 W (HC W hB) hc0 e9).mono fun e w' he => by
      obtain ⟨v, rfl, hR, hb⟩ := he
      obtain ⟨A, cc, rfl, h⟩ := hrow W w' v L2 hB hR hb
      exact ⟨A, cc, rfl, h⟩⟩
    have H11 : Aside0 (∀ W, Below w.heap.size w W → Calls Try.prog 56 #[.slice A0 l0.length c0, .int .i64 a1] W fun e w' => ∃ A cc, e = .returned (.slice A L1.length cc) ∧ Aside0 (Kd.C (Kd.int .i64) w' A L1.length L1 ∧ L1.length ≤ cc ∧ Below w.heap.size w w')) := ⟨fun W hB => (impl_ancestors.calls k A0 c0 l0 a1 L1 W (HC W hB) hc0 e11).mono fun e w' he => by
      obtain ⟨v, rfl, hR, hb⟩ := he
      obtain ⟨A, cc, rfl, h⟩ := hrow W w' v L1 hB hR hb
      exact ⟨A, cc, rfl, h⟩⟩
    have H13 : Aside0 (∀ W, Below w.heap.size w W → Calls Try.prog 59 #[.slice A0 l0.length c0, .int .i64 a1, .int .i64 a2] W fun e w' => ∃ A cc, e = .returned (.slice A M.length cc) ∧ Aside0 (Kd.C (Kd.int .i64) w' A M.length M ∧ M.length ≤ cc ∧ Below w.heap.size w w')) := ⟨fun W hB => (impl_commonAncestors.calls k A0 c0 l0 a1 a2 M W (HC W hB) hc0 e13).mono fun e w' he => by
      obtain ⟨v, rfl, hR, hb⟩ := he
      obtain ⟨A, cc, rfl, h⟩ := hrow W w' v M hB hR hb
      exact ⟨A, cc, rfl, h⟩⟩
    have H10 : Aside0 (∀ W A cc, Kd.C (Kd.int .i64) W A L2.length L2 ∧ L2.length ≤ cc ∧ Below w.heap.size w W → Calls Try.prog 57 #[.slice A L2.length cc, .int .i64 a1] W fun e w' => e = .returned (.bool b1) ∧ Below w.heap.size w w') := ⟨fun W A cc hB => (slices_Contains_int_int.calls k A cc L2 a1 b1 W hB.1 hB.2.1 e10).mono fun e w' he => ⟨he.1, st W w' hB.2.2 he.2.below⟩⟩
    have H12 : Aside0 (∀ W A cc, Kd.C (Kd.int .i64) W A L1.length L1 ∧ L1.length ≤ cc ∧ Below w.heap.size w W → Calls Try.prog 57 #[.slice A L1.length cc, .int .i64 a2] W fun e w' => e = .returned (.bool b2) ∧ Below w.heap.size w w') := ⟨fun W A cc hB => (slices_Contains_int_int.calls k A cc L1 a2 b2 W hB.1 hB.2.1 e12).mono fun e w' he => ⟨he.1, st W w' hB.2.2 he.2.below⟩⟩
    have hM : M.length ≤ 9223372036854775807 ∨ True := .inr trivial
    clear e1 e2 e3 e4 e5 e6 e7 e8 e9 e10 e11 e12 e13 hr0 hc0 hM hrow HC st
    obtain ⟨m, hm⟩ : ∃ m : Bool, decide (0 < M.length) = m := ⟨_, rfl⟩
    rw [hm]
    by_cases he : a1 = a2
    · have h0 : (a1 == a2) = true := beq_iff_eq.2 he
      rw [h0]
      have HM := Aside0.mk hm
      clear hm he
      go_enter Try.func33, Try.ntmps33
      go_wp2_with (go_at_call 44; refine HK.out.mono ?_; rintro e w' ⟨rfl, hb⟩; have HB := Aside0.mk hb; clear hb)
      go_ret2
      exact ⟨rfl, HB.out⟩
    · have h0 : (a1 == a2) = false := beq_eq_false_iff_ne.2 he
      rw [h0]
      clear he
      go_enter Try.func33, Try.ntmps33
      go_wp2_with (first | (go_at_call 44; refine HK.out.mono ?_; rintro e w' ⟨rfl, hb⟩; have HB := Aside0.mk hb; clear hb HK) | (go_at_call 61; ((with_reducible refine (H1.out _ HB.out).mono ?_); clear H1); rintro e w' ⟨rfl, hb⟩; clear HB; have HB := Aside0.mk hb; clear hb) | (go_at_call 61; ((with_reducible refine (H2.out _ HB.out).mono ?_); clear H2); rintro e w' ⟨rfl, hb⟩; clear HB; have HB := Aside0.mk hb; clear hb) | (go_at_call 62; ((with_reducible refine (H3.out _ HB.out).mono ?_); clear H3); rintro e w' ⟨rfl, hb⟩; clear HB; have HB := Aside0.mk hb; clear hb) | (go_at_call 63; ((with_reducible refine (H4.out _ HB.out).mono ?_); clear H4); rintro e w' ⟨rfl, hb⟩; clear HB; have HB := Aside0.mk hb; clear hb) | (go_at_call 63; ((with_reducible refine (H5.out _ HB.out).mono ?_); clear H5); rintro e w' ⟨rfl, hb⟩; clear HB; have HB := Aside0.mk hb; clear hb) | (go_at_call 64; ((with_reducible refine (H6.out _ HB.out).mono ?_); clear H6); rintro e w' ⟨rfl, hb⟩; clear HB; have HB := Aside0.mk hb; clear hb) | (go_at_call 64; ((with_reducible refine (H7.out _ HB.out).mono ?_); clear H7); rintro e w' ⟨rfl, hb⟩; clear HB; have HB := Aside0.mk hb; clear hb) | (go_at_call 65; ((with_reducible refine (H8.out _ HB.out).mono ?_); clear H8); rintro e w' ⟨rfl, hb⟩; clear HB; have HB := Aside0.mk hb; clear hb) | (go_at_call 56; ((with_reducible refine (H9.out _ HB.out).mono ?_); clear H9); rintro e w' ⟨A2, cc2, rfl, hR2⟩; clear HB; have HB := Aside0.mk hR2.out.2.2) | (go_at_call 57; ((with_reducible refine (H10.out _ _ _ hR2.out).mono ?_); clear H10 hR2); rintro e w' ⟨rfl, hb⟩; clear HB; have HB := Aside0.mk hb; clear hb) | (go_at_call 56; ((with_reducible refine (H11.out _ HB.out).mono ?_); clear H11); rintro e w' ⟨A1, cc1, rfl, hR1⟩; clear HB; have HB := Aside0.mk hR1.out.2.2) | (go_at_call 57; ((with_reducible refine (H12.out _ _ _ hR1.out).mono ?_); clear H12 hR1); rintro e w' ⟨rfl, hb⟩; clear HB; have HB := Aside0.mk hb; clear hb) | (go_at_call 59; ((with_reducible refine (H13.out _ HB.out).mono ?_); clear H13); rintro e w' ⟨A3, cc3, rfl, hR3⟩; clear HB; have HB := Aside0.mk hR3.out.2.2))
      all_goals
        go_ret2
        refine ⟨?_, HB.out⟩
        first | rfl | (simp [impl_RelationOf.txt, *]; done) | (congr 3; simp_all [impl_RelationOf.txt])

end Go.Proofs.Ytllihaahppelhaa.P
