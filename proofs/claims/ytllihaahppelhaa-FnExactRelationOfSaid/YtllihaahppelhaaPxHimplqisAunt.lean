/- Calls of the functions of the given program return what the plain Lean functions of the same names return; and a row of a law out of its pure statement. Written by a program of this session out of the translation; Lean checks it. No condition. -/
import Derived.Test.YtllihaahppelhaaPx0
import Derived.Test.YtllihaahppelhaaPxHimplqKinqparents
import Derived.Test.YtllihaahppelhaaPxHslicesqContainsFuncqintqint
import Derived.Test.YtllihaahppelhaaPx17
import Derived.Test.YtllihaahppelhaaHlp
namespace Go.Proofs.Ytllihaahppelhaa.P
open Go.RowKit Go.Proofs.YtllihaahppelhaaW.PrintWords Go.Proofs.YtllihaahppelhaaW.PrintLast Go.Proofs.YtllihaahppelhaaW.PrintMore
attribute [local go_sem] max2_int min2_int max_two min_two max_three min_three max_four min_four   -- for this text's walks alone
set_option linter.unusedVariables false
set_option linter.unusedSimpArgs false

/-! ### impl_isAunt: function 64, by hand -/
-- IMPORT Derived.Test.YtllihaahppelhaaHlp
def impl_isAunt.ps (l0 : List S49) (i : Int) : List Int := [(rd_T49 l0 i).f1, (rd_T49 l0 i).f2].filter fun x => !decide (x < 0)
def impl_isAunt.f (l0 : List S49) (a1 a2 : Int) : Option Bool :=
  if 0 ≤ a2 ∧ a2 < (l0.length : Int) then (if (impl_isAunt.ps l0 a2).all (fun p => (impl_areSiblings.f l0 a1 p).isSome) = true then some ((impl_isAunt.ps l0 a2).any fun p => (impl_areSiblings.f l0 a1 p).getD false) else none) else none
set_option maxHeartbeats 2000000 in
theorem impl_isAunt.clo (A0 : Option Addr) (c0 : Nat) (l0 : List S49) (a1 p : Int) (b : Bool) (B1 B2 : Nat) (W : World) (h1 : W.cell? ⟨B1, 0, none⟩ = some (.slice A0 l0.length c0)) (h2 : W.cell? ⟨B2, 0, none⟩ = some (.int .i64 a1)) (hr0 : Kd.C k49 W A0 l0.length l0) (hc0 : l0.length ≤ c0) (hs : impl_areSiblings.f l0 a1 p = some b) :
    Calls Try.prog 84 #[.int .i64 p, .pointer (some ⟨B1, 0, none⟩), .pointer (some ⟨B2, 0, none⟩)] W fun e w' => e = .returned (.bool b) ∧ Below W.heap.size W w' := by
  have hcall := impl_areSiblings.calls A0 c0 l0 a1 p b W hr0 hc0 hs
  have HC : Aside0 _ := ⟨hcall⟩
  clear hcall hr0 hs
  go_enter Try.func84, Try.ntmps84
  go_wp2_with (go_at_call 62; refine HC.out.mono ?_; rintro e w' ⟨rfl, hb⟩)
  go_ret
  exact ⟨rfl, hb⟩
set_option maxHeartbeats 4000000 in
theorem impl_isAunt.calls (A0 : Option Addr) (c0 : Nat) (l0 : List S49) (a1 a2 : Int) (r : Bool) (w : World) (hr0 : Kd.C k49 w A0 l0.length l0) (hc0 : l0.length ≤ c0) (h : impl_isAunt.f l0 a1 a2 = some r) :
    Calls Try.prog 64 #[.slice A0 l0.length c0, .int .i64 a1, .int .i64 a2] w fun e w' => e = .returned (.bool r) ∧ Below w.heap.size w w' := by
  unfold impl_isAunt.f at h
  have hi : 0 ≤ a2 ∧ a2 < (l0.length : Int) := by
    split at h
    · assumption
    · cases h
  rw [if_pos hi] at h
  have hall : (impl_isAunt.ps l0 a2).all (fun p => (impl_areSiblings.f l0 a1 p).isSome) = true := by
    split at h
    · assumption
    · cases h
  rw [if_pos hall] at h
  obtain rfl := Option.some.inj h
  clear h
  have eg : ∀ args w, (callFunc 84 args).run Try.prog w = .ok (.enter 84 args) w := enters_of Try.func84 (by kernel_rfl) rfl
  have hb1 : Below w.heap.size w ((w.alloc (.cells #[.slice A0 l0.length c0] 27)).alloc (.cells #[.int .i64 a1] 3)) := ((Below.refl _ w).alloc (Nat.le_refl _) _).alloc (by simp) _
  have hrw : Kd.C k49 ((w.alloc (.cells #[.slice A0 l0.length c0] 27)).alloc (.cells #[.int .i64 a1] 3)) A0 l0.length l0 := Kd.C_below hr0 hb1
  obtain ⟨m, rfl⟩ := Int.eq_ofNat_of_zero_le hi.1
  have hm : m < l0.length := by omega
  obtain ⟨ad, rfl, g0, g1, g2⟩ := at_T49 hrw (m : Int) hi.1 hi.2
  rw [Int.toNat_natCast] at g0 g1 g2
  have hlen := Hlp.C_len hr0
  have hpar := fun W => impl_Kin_parents.calls (rd_T49 l0 (m : Int)).f0 (rd_T49 l0 (m : Int)).f1 (rd_T49 l0 (m : Int)).f2 (impl_isAunt.ps l0 (m : Int)) W rfl
  have hcf : ∀ (v : Value) (w1 : World), Kd.R (Kd.int .i64) 3 w1 (w.heap.size + 1 + 1) (fun _ => True) v (impl_isAunt.ps l0 (m : Int)) → Below (w.heap.size + 1 + 1) ((w.alloc (.cells #[.slice (some ad) l0.length c0] 27)).alloc (.cells #[.int .i64 a1] 3)) w1 →
      Calls Try.prog 82 #[v, .func (.func 84) #[] #[.pointer (some ⟨w.heap.size, 0, none⟩), .pointer (some ⟨w.heap.size + 1, 0, none⟩)]] w1 fun e w' =>
        e = .returned (.bool ((impl_isAunt.ps l0 (m : Int)).any fun p => (impl_areSiblings.f l0 a1 p).getD false)) ∧ Below w.heap.size w w' := by
    intro v w1 hR hb2
    obtain ⟨A, c, rfl, hlc, hC⟩ := Kd.R_reads hR
    have hb3 : Below w.heap.size w w1 := hb1.trans (hb2.mono (by omega))
    refine (slices_ContainsFunc_int_int.any (fun p => (impl_areSiblings.f l0 a1 p).getD false) 84 _ eg A c _ w1 hC (fun x hx W hW => ?_)).mono ?_
    · have hb4 : Below (w.heap.size + 1 + 1) ((w.alloc (.cells #[.slice (some ad) l0.length c0] 27)).alloc (.cells #[.int .i64 a1] 3)) W := below_then hb2 (by have := hb2.size; simpa using this) hW
      have hs := List.all_eq_true.1 hall x hx
      obtain ⟨b, hb⟩ := Option.isSome_iff_exists.1 hs
      rw [hb]
      refine impl_isAunt.clo (some ad) c0 l0 a1 x b w.heap.size (w.heap.size + 1) W ((hb4.cell (p := ⟨w.heap.size, 0, none⟩) (by simp; omega)).trans (by simp)) ((hb4.cell (p := ⟨w.heap.size + 1, 0, none⟩) (by simp)).trans (by simp)) (Kd.C_below hr0 (hb1.trans (hb4.mono (by omega)))) hc0 hb
    · rintro e w' ⟨he, hb⟩
      exact ⟨he, below_then hb3 (by have := hb3.size; exact this) hb⟩
  generalize ((impl_isAunt.ps l0 (m : Int)).any fun p => (impl_areSiblings.f l0 a1 p).getD false) = r at hcf ⊢
  generalize impl_isAunt.ps l0 (m : Int) = ps at hcf hpar
  have HP : Aside0 _ := ⟨hpar⟩
  have HD : Aside0 _ := ⟨hcf⟩
  generalize (rd_T49 l0 (m : Int)).f0 = x0 at g0 HP
  generalize (rd_T49 l0 (m : Int)).f1 = x1 at g1 HP
  generalize (rd_T49 l0 (m : Int)).f2 = x2 at g2 HP
  clear hpar hcf hall hb1 hr0 hrw hi
  go_enter Try.func64, Try.ntmps64
  go_wp2_with (first | (go_at_call 47; refine (HP.out _).mono ?_; rintro e w1 ⟨v1, rfl, hR, hb⟩; have HR : Aside0 _ := ⟨hR⟩; have HB : Aside0 _ := ⟨hb⟩; clear hR hb) | (go_at_call 82; refine (HD.out _ _ (by simpa using HR.out) (by simpa using HB.out)).mono ?_; rintro e w2 ⟨rfl, hb⟩; have HB2 : Aside0 _ := ⟨hb⟩; clear hb))
  go_ret
  exact ⟨rfl, HB2.out⟩

end Go.Proofs.Ytllihaahppelhaa.P
