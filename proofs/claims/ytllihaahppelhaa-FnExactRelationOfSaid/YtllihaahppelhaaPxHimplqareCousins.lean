/- Calls of the functions of the given program return what the plain Lean functions of the same names return; and a row of a law out of its pure statement. Written by a program of this session out of the translation; Lean checks it. No condition. -/
import Derived.Test.YtllihaahppelhaaPx0
import Derived.Test.YtllihaahppelhaaPxHimplqKinqparents
import Derived.Test.YtllihaahppelhaaPxHslicesqContainsFuncqintqint
import Derived.Test.YtllihaahppelhaaPx17
import Derived.Test.YtllihaahppelhaaPxHimplqisAunt
import Derived.Test.YtllihaahppelhaaHlp
namespace Go.Proofs.Ytllihaahppelhaa.P
open Go.RowKit Go.Proofs.YtllihaahppelhaaW.PrintWords Go.Proofs.YtllihaahppelhaaW.PrintLast Go.Proofs.YtllihaahppelhaaW.PrintMore
attribute [local go_sem] max2_int min2_int max_two min_two max_three min_three max_four min_four   -- for this text's walks alone
set_option linter.unusedVariables false
set_option linter.unusedSimpArgs false

/-! ### impl_areCousins: function 65, by hand -/
-- IMPORT Derived.Test.YtllihaahppelhaaHlp
def impl_areCousins.f (l0 : List S49) (a1 a2 : Int) : Option Bool :=
  if a1 = a2 then some false else (impl_areSiblings.f l0 a1 a2).bind fun s => if s = true then some false else
  if 0 ≤ a1 ∧ a1 < (l0.length : Int) then (if (impl_isAunt.ps l0 a1).all (fun p => (impl_isAunt.f l0 p a2).isSome) = true then some ((impl_isAunt.ps l0 a1).any fun p => (impl_isAunt.f l0 p a2).getD false) else none) else none
set_option maxHeartbeats 2000000 in
theorem impl_areCousins.clo (A0 : Option Addr) (c0 : Nat) (l0 : List S49) (a2 p : Int) (b : Bool) (B1 B2 : Nat) (W : World) (h1 : W.cell? ⟨B1, 0, none⟩ = some (.slice A0 l0.length c0)) (h2 : W.cell? ⟨B2, 0, none⟩ = some (.int .i64 a2)) (hr0 : Kd.C k49 W A0 l0.length l0) (hc0 : l0.length ≤ c0) (hs : impl_isAunt.f l0 p a2 = some b) :
    Calls Try.prog 85 #[.int .i64 p, .pointer (some ⟨B1, 0, none⟩), .pointer (some ⟨B2, 0, none⟩)] W fun e w' => e = .returned (.bool b) ∧ Below W.heap.size W w' := by
  have hcall := impl_isAunt.calls A0 c0 l0 p a2 b W hr0 hc0 hs
  have HC : Aside0 _ := ⟨hcall⟩
  clear hcall hr0 hs
  go_enter Try.func85, Try.ntmps85
  go_wp2_with (go_at_call 64; refine HC.out.mono ?_; rintro e w' ⟨rfl, hb⟩)
  go_ret
  exact ⟨rfl, hb⟩
set_option maxHeartbeats 4000000 in
theorem impl_areCousins.calls (A0 : Option Addr) (c0 : Nat) (l0 : List S49) (a1 a2 : Int) (r : Bool) (w : World) (hr0 : Kd.C k49 w A0 l0.length l0) (hc0 : l0.length ≤ c0) (h : impl_areCousins.f l0 a1 a2 = some r) :
    Calls Try.prog 65 #[.slice A0 l0.length c0, .int .i64 a1, .int .i64 a2] w fun e w' => e = .returned (.bool r) ∧ Below w.heap.size w w' := by
  unfold impl_areCousins.f at h
  have hb1 : Below w.heap.size w ((w.alloc (.cells #[.slice A0 l0.length c0] 27)).alloc (.cells #[.int .i64 a2] 3)) := ((Below.refl _ w).alloc (Nat.le_refl _) _).alloc (by simp) _
  by_cases he : a1 = a2
  · rw [if_pos he] at h
    obtain rfl := Option.some.inj h
    have e1 : (a1 == a2) = true := beq_iff_eq.2 he
    have HB : Aside0 _ := ⟨hb1⟩
    clear hb1 h he hr0
    go_enter Try.func65, Try.ntmps65
    go_wp2
    go_ret
    exact ⟨rfl, HB.out⟩
  rw [if_neg he] at h
  have e1 : (a1 == a2) = false := beq_eq_false_iff_ne.2 he
  obtain ⟨s, hs, h⟩ := Option.bind_eq_some_iff.1 h
  have hrw : Kd.C k49 ((w.alloc (.cells #[.slice A0 l0.length c0] 27)).alloc (.cells #[.int .i64 a2] 3)) A0 l0.length l0 := Kd.C_below hr0 hb1
  have hsib := impl_areSiblings.calls A0 c0 l0 a1 a2 s _ hrw hc0 hs
  cases s with
  | true =>
    rw [if_pos rfl] at h
    obtain rfl := Option.some.inj h
    have HB : Aside0 _ := ⟨hb1⟩
    have HS : Aside0 _ := ⟨hsib⟩
    clear hb1 h he hr0 hrw hsib hs
    go_enter Try.func65, Try.ntmps65
    go_wp2_with (go_at_call 62; refine HS.out.mono ?_; rintro e w1 ⟨rfl, hb⟩; have HB0 : Aside0 _ := ⟨hb⟩; clear hb)
    go_ret
    exact ⟨rfl, below_then HB.out (by simp; omega) HB0.out⟩
  | false =>
  rw [if_neg (by simp)] at h
  have hi : 0 ≤ a1 ∧ a1 < (l0.length : Int) := by
    split at h
    · assumption
    · cases h
  rw [if_pos hi] at h
  have hall : (impl_isAunt.ps l0 a1).all (fun p => (impl_isAunt.f l0 p a2).isSome) = true := by
    split at h
    · assumption
    · cases h
  rw [if_pos hall] at h
  obtain rfl := Option.some.inj h
  clear h hs
  have eg : ∀ args w, (callFunc 85 args).run Try.prog w = .ok (.enter 85 args) w := enters_of Try.func85 (by kernel_rfl) rfl
  obtain ⟨m, rfl⟩ := Int.eq_ofNat_of_zero_le hi.1
  have hm : m < l0.length := by omega
  obtain ⟨ad, rfl, g0, g1, g2⟩ := at_T49 hrw (m : Int) hi.1 hi.2
  rw [Int.toNat_natCast] at g0 g1 g2
  have hlen := Hlp.C_len hr0
  have hpar := fun W => impl_Kin_parents.calls (rd_T49 l0 (m : Int)).f0 (rd_T49 l0 (m : Int)).f1 (rd_T49 l0 (m : Int)).f2 (impl_isAunt.ps l0 (m : Int)) W rfl
  have hcf : ∀ (v : Value) (w0 w1 : World), Below (w.heap.size + 1 + 1) ((w.alloc (.cells #[.slice (some ad) l0.length c0] 27)).alloc (.cells #[.int .i64 a2] 3)) w0 → Kd.R (Kd.int .i64) 3 w1 w0.heap.size (fun _ => True) v (impl_isAunt.ps l0 (m : Int)) → Below w0.heap.size w0 w1 →
      Calls Try.prog 82 #[v, .func (.func 85) #[] #[.pointer (some ⟨w.heap.size, 0, none⟩), .pointer (some ⟨w.heap.size + 1, 0, none⟩)]] w1 fun e w' =>
        e = .returned (.bool ((impl_isAunt.ps l0 (m : Int)).any fun p => (impl_isAunt.f l0 p a2).getD false)) ∧ Below w.heap.size w w' := by
    intro v w0 w1 hb0 hR hb2'
    obtain ⟨A, c, rfl, hlc, hC⟩ := Kd.R_reads hR
    have hb2 : Below (w.heap.size + 1 + 1) ((w.alloc (.cells #[.slice (some ad) l0.length c0] 27)).alloc (.cells #[.int .i64 a2] 3)) w1 := below_then hb0 (by have := hb0.size; simpa using this) hb2'
    have hb3 : Below w.heap.size w w1 := hb1.trans (hb2.mono (by omega))
    refine (slices_ContainsFunc_int_int.any (fun p => (impl_isAunt.f l0 p a2).getD false) 85 _ eg A c _ w1 hC (fun x hx W hW => ?_)).mono ?_
    · have hb4 : Below (w.heap.size + 1 + 1) ((w.alloc (.cells #[.slice (some ad) l0.length c0] 27)).alloc (.cells #[.int .i64 a2] 3)) W := below_then hb2 (by have := hb2.size; simpa using this) hW
      have hs := List.all_eq_true.1 hall x hx
      obtain ⟨b, hb⟩ := Option.isSome_iff_exists.1 hs
      rw [hb]
      refine impl_areCousins.clo (some ad) c0 l0 a2 x b w.heap.size (w.heap.size + 1) W ((hb4.cell (p := ⟨w.heap.size, 0, none⟩) (by simp; omega)).trans (by simp)) ((hb4.cell (p := ⟨w.heap.size + 1, 0, none⟩) (by simp)).trans (by simp)) (Kd.C_below hr0 (hb1.trans (hb4.mono (by omega)))) hc0 hb
    · rintro e w' ⟨he, hb⟩
      exact ⟨he, below_then hb3 (by have := hb3.size; exact this) hb⟩
  generalize ((impl_isAunt.ps l0 (m : Int)).any fun p => (impl_isAunt.f l0 p a2).getD false) = r at hcf ⊢
  generalize impl_isAunt.ps l0 (m : Int) = ps at hcf hpar
  have HP : Aside0 _ := ⟨hpar⟩
  have HD : Aside0 _ := ⟨hcf⟩
  have HS : Aside0 _ := ⟨hsib⟩
  generalize (rd_T49 l0 (m : Int)).f0 = x0 at g0 HP
  generalize (rd_T49 l0 (m : Int)).f1 = x1 at g1 HP
  generalize (rd_T49 l0 (m : Int)).f2 = x2 at g2 HP
  clear hpar hcf hall hb1 hr0 hrw hi hsib he
  go_enter Try.func65, Try.ntmps65
  go_wp2_with (first | (go_at_call 62; refine HS.out.mono ?_; rintro e w0 ⟨rfl, hb⟩; have HB0 : Aside0 _ := ⟨hb⟩; have k1 : w0.cell? ⟨w.heap.size, 0, none⟩ = some (.slice (some ad) l0.length c0) := (HB0.out.cell (p := ⟨w.heap.size, 0, none⟩) (by simp; omega)).trans (by simp); have k2 : w0.cell? ⟨w.heap.size + 1, 0, none⟩ = some (.int .i64 a2) := (HB0.out.cell (p := ⟨w.heap.size + 1, 0, none⟩) (by simp)).trans (by simp); have q0 := pw_cell_below HB0.out g0; have q1 := pw_cell_below HB0.out g1; have q2 := pw_cell_below HB0.out g2; clear hb g0 g1 g2) | (go_at_call 47; refine (HP.out _).mono ?_; rintro e w1 ⟨v1, rfl, hR, hb⟩; have HR : Aside0 _ := ⟨hR⟩; have HB : Aside0 _ := ⟨hb⟩; clear hR hb) | (go_at_call 82; refine (HD.out _ _ _ (by simpa using HB0.out) (by simpa using HR.out) (by simpa using HB.out)).mono ?_; rintro e w2 ⟨rfl, hb⟩; have HB2 : Aside0 _ := ⟨hb⟩; clear hb))
  go_ret
  exact ⟨rfl, HB2.out⟩

end Go.Proofs.Ytllihaahppelhaa.P
