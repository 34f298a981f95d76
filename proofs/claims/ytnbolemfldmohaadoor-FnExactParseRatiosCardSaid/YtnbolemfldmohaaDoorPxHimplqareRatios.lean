/- Calls of the functions of the given program return what the plain Lean functions of the same names return; and a row of a law out of its pure statement. Written by a program of this session out of the translation; Lean checks it. No condition. -/
import Derived.Test.YtnbolemfldmohaaDoorPx0
import Derived.Test.YtnbolemfldmohaaDoorPx2
import Derived.Test.YtnbolemfldmohaaDoorPxHimplqRatioq27
import Derived.Test.YtnbolemfldmohaaDoorPx5
import Derived.Test.YtnbolemfldmohaaDoorHlp
namespace Go.Proofs.YtnbolemfldmohaaDoor.P
open Go.RowKit Go.Proofs.YtnbolemfldmohaaDoorW.PrintWords Go.Proofs.YtnbolemfldmohaaDoorW.PrintLast Go.Proofs.YtnbolemfldmohaaDoorW.PrintMore
attribute [local go_sem] max2_int min2_int max_two min_two max_three min_three max_four min_four   -- for this text's walks alone
set_option linter.unusedVariables false
set_option linter.unusedSimpArgs false

/-! ### impl_areRatios: function 17, by hand -/
-- IMPORT Derived.Test.YtnbolemfldmohaaDoorHlp
def impl_areRatios.one (x : S37) : Bool := decide (1 ≤ x.f0 ∧ x.f0 ≤ 100) && decide (1 ≤ x.f1 ∧ x.f1 ≤ 100)
def impl_areRatios.f (l0 : List S37) : Option Bool := some (decide (1 ≤ l0.length ∧ l0.length ≤ 6) && l0.all impl_areRatios.one)
theorem impl_areRatios.betw (a lo hi : Int) : impl_between.f a lo hi = some (decide (lo ≤ a ∧ a ≤ hi)) := by
  unfold impl_between.f
  by_cases h : a ≥ lo
  · rw [if_pos h]; congr 1; simp; omega
  · rw [if_neg h]; congr 1; simp; omega
theorem impl_areRatios.isRatio (a b : Int) : impl_IsRatio.f a b = some (impl_areRatios.one ⟨a, b⟩) := by
  unfold impl_IsRatio.f impl_areRatios.one
  rw [impl_areRatios.betw, impl_areRatios.betw]
  simp only [Option.bind_some]
  cases decide (1 ≤ a ∧ a ≤ 100) <;> simp
set_option maxHeartbeats 2000000 in
theorem impl_areRatios.clo (x : S37) (w : World) :
    Calls Tryd.prog 28 #[.agg #[.int .i64 x.f0, .int .i64 x.f1]] w fun e w' => e = .returned (.bool (!(impl_areRatios.one x))) ∧ Below w.heap.size w w' := by
  have hu := Tryd.underlying37
  have hcall := fun W => impl_IsRatio.calls x.f0 x.f1 _ W (impl_areRatios.isRatio x.f0 x.f1)
  have HC : Aside0 _ := ⟨hcall⟩
  clear hcall
  have HB := Aside0.mk (Below.refl w.heap.size w)
  generalize impl_areRatios.one x = b at HC ⊢
  go_enter Tryd.func28, Tryd.ntmps28
  go_wp2_with (first | ((with_reducible refine gate_dst (N := 1) rfl ?_); refine box_event ?hg (N := 1) ?hd (cs := #[.int .i64 x.f0, .int .i64 x.f1]) (t := 37) ?hr ?_; (case hd => rfl); (case hg => rfl); (case hr => first | (go_simp; done) | (go_simp; rfl)); intro gb hg w5 hbox hb; have n0_ := Aside0.mk (below_step HB.out hb); have n1_ := Aside0.mk (hbox); clear HB; have HB := n0_; have BK := n1_; clear n0_ n1_; clear hb hbox hg; have hcz0 : w5.cell? ⟨gb, 0, none⟩ = some (.int .i64 x.f0) := (blk_cell BK.out 0).trans rfl; have hcz1 : w5.cell? ⟨gb, 1, none⟩ = some (.int .i64 x.f1) := (blk_cell BK.out 1).trans rfl; have hfz0 := blk_frozen BK.out 0; have hfz1 := blk_frozen BK.out 1) | (go_at_call 29; refine (HC.out _).mono ?_; rintro e w' ⟨rfl, hd⟩))
  go_ret
  exact ⟨rfl, below_then HB.out HB.out.size hd⟩
set_option maxHeartbeats 2000000 in
theorem impl_areRatios.calls (A0 : Option Addr) (c0 : Nat) (l0 : List S37) (r : Bool) (w : World) (hr0 : Kd.C k37 w A0 l0.length l0) (hc0 : l0.length ≤ c0) (h : impl_areRatios.f l0 = some r) :
    Calls Tryd.prog 17 #[.slice A0 l0.length c0] w fun e w' => e = .returned (.bool r) ∧ Below w.heap.size w w' := by
  obtain rfl : (decide (1 ≤ l0.length ∧ l0.length ≤ 6) && l0.all impl_areRatios.one) = r := Option.some.inj h
  have eg : ∀ args w, (callFunc 28 args).run Tryd.prog w = .ok (.enter 28 args) w := enters_of Tryd.func28 (by kernel_rfl) rfl
  have hcall := fun W => impl_between.calls (l0.length : Int) 1 6 _ W (impl_areRatios.betw _ _ _)
  have e1 : decide ((1 : Int) ≤ (l0.length : Int) ∧ (l0.length : Int) ≤ 6) = decide (1 ≤ l0.length ∧ l0.length ≤ 6) := by rw [decide_eq_decide]; omega
  rw [e1] at hcall
  have hcon := fun (W : World) (hb : Below w.heap.size w W) => impl_Ratio_27.any (fun x => !(impl_areRatios.one x)) 28 #[] eg A0 c0 l0 W (Kd.C_below hr0 hb) (fun x _ W' _ => impl_areRatios.clo x W')
  have e2 : l0.all impl_areRatios.one = !(l0.any fun x => !(impl_areRatios.one x)) := by rw [List.not_any_eq_all_not]; simp
  rw [e2]
  generalize (l0.any fun x => !(impl_areRatios.one x)) = b2 at hcon ⊢
  generalize decide (1 ≤ l0.length ∧ l0.length ≤ 6) = b1 at hcall ⊢
  have HC : Aside0 _ := ⟨hcon⟩
  have HB : Aside0 _ := ⟨hcall⟩
  clear hcon hcall e1 e2 hr0 h
  cases b1 with
  | true =>
    go_enter Tryd.func17, Tryd.ntmps17
    go_wp2_with (first | (go_at_call 26; refine (HB.out _).mono ?_; rintro e w' ⟨rfl, hd⟩; have HD := Aside0.mk hd.below; clear hd) | (go_at_call 27; refine (HC.out _ HD.out).mono ?_; rintro e w' ⟨rfl, hb⟩))
    go_ret
    exact ⟨rfl, below_then HD.out HD.out.size hb⟩
  | false =>
    go_enter Tryd.func17, Tryd.ntmps17
    go_wp2_with (go_at_call 26; refine (HB.out _).mono ?_; rintro e w' ⟨rfl, hd⟩; have HD := Aside0.mk hd.below; clear hd)
    go_ret
    exact ⟨rfl, HD.out⟩

end Go.Proofs.YtnbolemfldmohaaDoor.P
