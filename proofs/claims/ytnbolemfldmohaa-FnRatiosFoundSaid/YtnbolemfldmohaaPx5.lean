/- Calls of the functions of the given program return what the plain Lean functions of the same names return; and a row of a law out of its pure statement. Written by a program of this session out of the translation; Lean checks it. No condition. -/
import Derived.Test.YtnbolemfldmohaaPx0
import Derived.Test.YtnbolemfldmohaaCt
import Derived.Test.YtnbolemfldmohaaPx2
import Derived.Test.YtnbolemfldmohaaPx4
namespace Go.Proofs.Ytnbolemfldmohaa.P
open Go.RowKit Go.Proofs.YtnbolemfldmohaaW.PrintWords Go.Proofs.YtnbolemfldmohaaW.PrintLast Go.Proofs.YtnbolemfldmohaaW.PrintMore
attribute [local go_sem] max2_int min2_int max_two min_two max_three min_three max_four min_four   -- for this text's walks alone
set_option linter.unusedVariables false
set_option linter.unusedSimpArgs false

/-! ### spec_DrawAgesFromThen: function 43 -/
def spec_DrawAgesFromThen.f (l0 : List Int) : Option (Int × Int × Int × Int × Int × Int) := (spec_l1Cur_ratio.f l0 0 0).bind fun bt314 => ((spec_l1Cur_ratio.f l0 bt314.2.2.1 bt314.2.2.2).bind fun bt319 => ((spec_l1Cur_among.f l0 bt319.2.2.1 bt319.2.2.2 (([1, 2, 5, 10, 0, 60] : List Int))).bind fun bt327 => ((spec_l1Cur_among.f l0 bt327.2.1 bt327.2.2 (([1, 3, 5, 10, 60, 61, 0] : List Int))).bind fun bt333 => (some (bt314.1, bt314.2.1, bt319.1, bt319.2.1, bt327.1, bt333.1)))))
def spec_DrawAgesFromThen.T5 : Bool × List (List Nat × List Nat) := (true, [([], []), ([], []), ([], []), ([], []), ([], []), ([3, 4], [3, 4]), ([0, 5, 0], [0]), ([1, 6, 0, 1, 6], [1]), ([2, 7, 0, 1, 2, 6, 7], [2]), ([5, 8, 0, 1, 2, 3, 4, 5, 6, 7, 8], [5])])
def spec_DrawAgesFromThen.B5 : List Nat := [0, 0, 0, 0, 0, 24, 57, 123, 255, 511]
theorem spec_DrawAgesFromThen.tab5 : rtab .any (opsOf Try.f43 5) = spec_DrawAgesFromThen.T5 := by kernel_rfl
theorem spec_DrawAgesFromThen.bits5 : waitsOk spec_DrawAgesFromThen.T5.2 spec_DrawAgesFromThen.B5 = true := by kernel_rfl
set_option maxHeartbeats 8000000 in
set_option maxRecDepth 100000 in
theorem spec_DrawAgesFromThen.calls (A0 : Option Addr) (c0 : Nat) (l0 : List Int) (r1 : Int) (r2 : Int) (r3 : Int) (r4 : Int) (r5 : Int) (r6 : Int) (w : World) (hr0 : Kd.C (Kd.int .u8) w A0 l0.length l0) (hc0 : l0.length ≤ c0) (h : spec_DrawAgesFromThen.f l0 = some (r1, r2, r3, r4, r5, r6)) :
  Calls Try.prog 43 #[.slice A0 l0.length c0] w fun e w' => e = .returned (.tuple #[.agg #[.int .i64 r1, .int .i64 r2], .agg #[.int .i64 r3, .int .i64 r4], .int .i64 r5, .int .i64 r6]) ∧ Below w.heap.size w w' := by
 have hu43 := Try.underlying43
 have hu79 := Try.underlying79
 have HR0 := Aside0.mk hr0
 have HC0 := Aside0.mk hc0
 clear hr0 hc0
 have HB := Aside0.mk (Below.refl w.heap.size w)
 have H : ((spec_l1Cur_ratio.f l0 0 0).bind fun bt314 => ((spec_l1Cur_ratio.f l0 bt314.2.2.1 bt314.2.2.2).bind fun bt319 => ((spec_l1Cur_among.f l0 bt319.2.2.1 bt319.2.2.2 (([1, 2, 5, 10, 0, 60] : List Int))).bind fun bt327 => ((spec_l1Cur_among.f l0 bt327.2.1 bt327.2.2 (([1, 3, 5, 10, 60, 61, 0] : List Int))).bind fun bt333 => (some (bt314.1, bt314.2.1, bt319.1, bt319.2.1, bt327.1, bt333.1)))))) = some (r1, r2, r3, r4, r5, r6) := h
 clear h
 replace H := Option.bind_eq_some_iff.mp H
 obtain ⟨⟨t314, t315, t316, t317⟩, A20, H⟩ := H
 replace H : ((spec_l1Cur_ratio.f l0 t316 t317).bind fun bt319 => ((spec_l1Cur_among.f l0 bt319.2.2.1 bt319.2.2.2 (([1, 2, 5, 10, 0, 60] : List Int))).bind fun bt327 => ((spec_l1Cur_among.f l0 bt327.2.1 bt327.2.2 (([1, 3, 5, 10, 60, 61, 0] : List Int))).bind fun bt333 => (some (t314, t315, bt319.1, bt319.2.1, bt327.1, bt333.1))))) = some (r1, r2, r3, r4, r5, r6) := H
 have A2 := Aside0.mk A20
 clear A20
 replace H := Option.bind_eq_some_iff.mp H
 obtain ⟨⟨t319, t320, t321, t322⟩, A30, H⟩ := H
 replace H : ((spec_l1Cur_among.f l0 t321 t322 (([1, 2, 5, 10, 0, 60] : List Int))).bind fun bt327 => ((spec_l1Cur_among.f l0 bt327.2.1 bt327.2.2 (([1, 3, 5, 10, 60, 61, 0] : List Int))).bind fun bt333 => (some (t314, t315, t319, t320, bt327.1, bt333.1)))) = some (r1, r2, r3, r4, r5, r6) := H
 have A3 := Aside0.mk A30
 clear A30
 obtain ⟨y324, hy324⟩ : ∃ y_ : List Int, y_ = (([1, 2, 5, 10, 0, 60] : List Int)) := ⟨_, rfl⟩
 replace H : ((spec_l1Cur_among.f l0 t321 t322 y324).bind fun bt327 => ((spec_l1Cur_among.f l0 bt327.2.1 bt327.2.2 (([1, 3, 5, 10, 60, 61, 0] : List Int))).bind fun bt333 => (some (t314, t315, t319, t320, bt327.1, bt333.1)))) = some (r1, r2, r3, r4, r5, r6) := by first | (rw [hy324]; with_reducible exact H) | (have H2_ := (Option.bind_some _ _).symm.trans H; rw [hy324]; with_reducible exact H2_) | (have H2_ := (Option.bind_some _ _).symm.trans H; with_reducible exact H2_) | with_reducible exact H | (rw [hy324]; exact H) | exact H
 have Ny324 := Aside0.mk hy324
 clear hy324
 replace H := Option.bind_eq_some_iff.mp H
 obtain ⟨⟨t327, t328, t329⟩, A40, H⟩ := H
 replace H : ((spec_l1Cur_among.f l0 t328 t329 (([1, 3, 5, 10, 60, 61, 0] : List Int))).bind fun bt333 => (some (t314, t315, t319, t320, t327, bt333.1))) = some (r1, r2, r3, r4, r5, r6) := H
 have A4 := Aside0.mk A40
 clear A40
 obtain ⟨y330, hy330⟩ : ∃ y_ : List Int, y_ = (([1, 3, 5, 10, 60, 61, 0] : List Int)) := ⟨_, rfl⟩
 replace H : ((spec_l1Cur_among.f l0 t328 t329 y330).bind fun bt333 => (some (t314, t315, t319, t320, t327, bt333.1))) = some (r1, r2, r3, r4, r5, r6) := by first | (rw [hy330]; with_reducible exact H) | (have H2_ := (Option.bind_some _ _).symm.trans H; rw [hy330]; with_reducible exact H2_) | (have H2_ := (Option.bind_some _ _).symm.trans H; with_reducible exact H2_) | with_reducible exact H | (rw [hy330]; exact H) | exact H
 have Ny330 := Aside0.mk hy330
 clear hy330
 replace H := Option.bind_eq_some_iff.mp H
 obtain ⟨⟨t333, t334, t335⟩, A50, H⟩ := H
 replace H : (some (t314, t315, t319, t320, t327, t333)) = some (r1, r2, r3, r4, r5, r6) := H
 have A5 := Aside0.mk A50
 clear A50
 simp only [Option.some.injEq, Prod.mk.injEq] at H
 obtain ⟨rfl, rfl, rfl, rfl, rfl, rfl⟩ := H
 go_enter Try.func43, Try.ntmps43
 try go_wp2_with (first | ((with_reducible refine gate_dst (N := 2) rfl ?_); refine box_event ?hg (N := 2) ?hd (cs := #[.int .i64 0, .int .i64 0]) (t := 43) ?hr ?_; (case hd => rfl); (case hg => rfl); (case hr => first | (go_simp; done) | (go_simp; rfl)); intro gb311 hg w6 hbox hb; have n0_ := kH HB hb; have n1_ := Aside0.mk (hbox); have n2_ := kG HB hg; have n3_ := kG HB hg; replace HB := n0_; have BK311 := n1_; have GW311 := n2_; have GE311 := n3_; clear n0_ n1_ n2_ n3_; clear hb hbox hg) | ((with_reducible refine gate_dst (N := 3) rfl ?_); refine box_event ?hg (N := 3) ?hd (cs := #[.int .i64 0, .int .i64 0]) (t := 43) ?hr ?_; (case hd => rfl); (case hg => rfl); (case hr => first | (go_simp; done) | (go_simp; rfl)); intro gb312 hg w7 hbox hb; have n0_ := kB BK311 hb; have n1_ := kH HB hb; have n2_ := Aside0.mk (hbox); have n3_ := kG HB hg; have n4_ := kG HB hg; have n5_ := kL BK311 hg; have n6_ := kR BK311 hg; replace BK311 := n0_; replace HB := n1_; have BK312 := n2_; have GW312 := n3_; have GE312 := n4_; have NB311_312 := n5_; have NB312_311 := n6_; clear n0_ n1_ n2_ n3_ n4_ n5_ n6_; clear hb hbox hg) | ((with_reducible refine gate_dst (N := 12) rfl ?_); refine box_event ?hg (N := 12) ?hd (cs := #[.slice A0 l0.length c0, .int .i64 0, .int .u64 0]) (t := 79) ?hr ?_; (case hd => rfl); (case hg => rfl); (case hr => first | (go_simp; done) | (go_simp; rfl)); intro gb313 hg w8 hbox hb; have n0_ := kB BK311 hb; have n1_ := kB BK312 hb; have n2_ := kH HB hb; have n3_ := kG HB hg; have n4_ := kG HB hg; have n5_ := kL BK311 hg; have n6_ := kR BK311 hg; have n7_ := kL BK312 hg; have n8_ := kR BK312 hg; have n9_ := Aside0.mk ((⟨_, _, hbox, (by rw [hg]; exact (below_size kO) : w.heap.size ≤ gb313), HR0.out⟩ : IsS79 w w8 gb313 l0 0 0)); replace BK311 := n0_; replace BK312 := n1_; replace HB := n2_; have GW313 := n3_; have GE313 := n4_; have NB311_313 := n5_; have NB313_311 := n6_; have NB312_313 := n7_; have NB313_312 := n8_; have HI313 := n9_; clear n0_ n1_ n2_ n3_ n4_ n5_ n6_ n7_ n8_ n9_; clear hb hbox hg) | ((with_reducible refine gate_callee (f := 70) rfl ?_); refine kE (some 14) Try.func70 #[.pointer (some ⟨gb313, 0, none⟩)] rfl ?_; (with_reducible refine (spec_l1Cur_ratio.calls gb313 l0 0 0 t314 t315 t316 t317 w _ ?side1 ?side2 A2.out).mono ?_); (case side1 => repeat (first | (with_reducible first | exact HI313.out | apply IsS79.alloc | apply IsS79.drewN | apply IsS79.drew | apply IsS79.set_1 | apply IsS79.set_2 | refine IsS79.far ?_ NB313_311.out _ | refine IsS79.far ?_ NB313_312.out _) | exact HI313.out)); (case side2 => repeat (first | (with_reducible first | exact HB.out | apply below_alloc | apply pw_below_drewN | apply below_drew1 | refine below_set ?_ (IsS79.ge HI313.out) | refine below_set ?_ GE311.out | refine below_set ?_ GE312.out) | exact HB.out)); rintro e w9 ⟨rfl, hi, hb, hk⟩; refine ⟨_, rfl, ?_⟩; have n0_ := Aside0.mk (KeepBut.blk hk (g' := gb311) (o := .cells #[.int .i64 0, .int .i64 0] 43 (0, 0)) kC NB311_313.out (by simp)); have n1_ := Aside0.mk (KeepBut.blk hk (g' := gb312) (o := .cells #[.int .i64 0, .int .i64 0] 43 (0, 0)) kC NB312_313.out (by simp)); have n2_ := Aside0.mk (hb); have n3_ := Aside0.mk (hi); clear BK311; clear BK312; clear HB; clear HI313; have BK311 := n0_; have BK312 := n1_; have HB := n2_; have HI313 := n3_; clear n0_ n1_ n2_ n3_; (try clear hb); (try clear hk); (try clear hi)) | ((with_reducible refine gate_dst (N := 7) rfl ?_); refine box_event ?hg (N := 7) ?hd (cs := #[.int .i64 0, .int .i64 0]) (t := 43) ?hr ?_; (case hd => rfl); (case hg => rfl); (case hr => first | (go_simp; done) | (go_simp; rfl)); intro gb318 hg w10 hbox hb; have n0_ := kB BK311 hb; have n1_ := kB BK312 hb; have n2_ := Aside0.mk (IsS79.below (by repeat (first | (with_reducible first | exact HI313.out | apply IsS79.alloc | apply IsS79.drewN | apply IsS79.drew | apply IsS79.set_1 | apply IsS79.set_2 | refine IsS79.far ?_ NB313_311.out _ | refine IsS79.far ?_ NB313_312.out _) | exact HI313.out)) hb); have n3_ := Aside0.mk (below_step (by repeat (first | (with_reducible first | exact HB.out | apply below_alloc | apply pw_below_drewN | apply below_drew1 | refine below_set ?_ (IsS79.ge HI313.out) | refine below_set ?_ GE311.out | refine below_set ?_ GE312.out) | exact HB.out)) hb); have n4_ := Aside0.mk (hbox); have n5_ := Aside0.mk ((by rw [hg]; exact (below_size (by repeat (first | (with_reducible first | exact HB.out | apply below_alloc | apply pw_below_drewN | apply below_drew1 | refine below_set ?_ (IsS79.ge HI313.out) | refine below_set ?_ GE311.out | refine below_set ?_ GE312.out) | exact HB.out))) : w.heap.size ≤ gb318)); have n6_ := Aside0.mk ((by rw [hg]; exact (below_size (by repeat (first | (with_reducible first | exact HB.out | apply below_alloc | apply pw_below_drewN | apply below_drew1 | refine below_set ?_ (IsS79.ge HI313.out) | refine below_set ?_ GE311.out | refine below_set ?_ GE312.out) | exact HB.out))) : w.heap.size ≤ gb318)); have n7_ := kL BK311 hg; have n8_ := kR BK311 hg; have n9_ := kL BK312 hg; have n10_ := kR BK312 hg; have n11_ := Aside0.mk ((by rw [hg]; exact Nat.ne_of_lt (IsS79.lt (show IsS79 w _ gb313 l0 t316 t317 from by repeat (first | (with_reducible first | exact HI313.out | apply IsS79.alloc | apply IsS79.drewN | apply IsS79.drew | apply IsS79.set_1 | apply IsS79.set_2 | refine IsS79.far ?_ NB313_311.out _ | refine IsS79.far ?_ NB313_312.out _) | exact HI313.out))) : gb313 ≠ gb318)); have n12_ := Aside0.mk ((by rw [hg]; exact Nat.ne_of_gt (IsS79.lt (show IsS79 w _ gb313 l0 t316 t317 from by repeat (first | (with_reducible first | exact HI313.out | apply IsS79.alloc | apply IsS79.drewN | apply IsS79.drew | apply IsS79.set_1 | apply IsS79.set_2 | refine IsS79.far ?_ NB313_311.out _ | refine IsS79.far ?_ NB313_312.out _) | exact HI313.out))) : gb318 ≠ gb313)); clear BK311; clear BK312; clear HI313; clear HB; have BK311 := n0_; have BK312 := n1_; have HI313 := n2_; have HB := n3_; have BK318 := n4_; have GW318 := n5_; have GE318 := n6_; have NB311_318 := n7_; have NB318_311 := n8_; have NB312_318 := n9_; have NB318_312 := n10_; have NB313_318 := n11_; have NB318_313 := n12_; clear n0_ n1_ n2_ n3_ n4_ n5_ n6_ n7_ n8_ n9_ n10_ n11_ n12_; clear hb hbox hg; have hnb11 := NB318_311.out; have hnc11 := NB311_318.out; have hnb12 := NB318_312.out; have hnc12 := NB312_318.out; have hnb13 := NB318_313.out; have hnc13 := NB313_318.out; have hcz14_0 : w10.cell? ⟨gb318, 0, none⟩ = some (.int .i64 0) := (blk_cell BK318.out 0).trans rfl; have hcz14_1 : w10.cell? ⟨gb318, 1, none⟩ = some (.int .i64 0) := (blk_cell BK318.out 1).trans rfl; have hfz14_0 := blk_frozen BK318.out 0; have hfz14_1 := blk_frozen BK318.out 1) | ((with_reducible refine gate_callee (f := 70) rfl ?_); refine kE (some 16) Try.func70 #[.pointer (some ⟨gb313, 0, none⟩)] rfl ?_; (with_reducible refine (spec_l1Cur_ratio.calls gb313 l0 t316 t317 t319 t320 t321 t322 w _ ?side1 ?side2 A3.out).mono ?_); (case side1 => repeat (first | (with_reducible first | exact HI313.out | apply IsS79.alloc | apply IsS79.drewN | apply IsS79.drew | apply IsS79.set_1 | apply IsS79.set_2 | refine IsS79.far ?_ NB313_311.out _ | refine IsS79.far ?_ NB313_312.out _ | refine IsS79.far ?_ NB313_318.out _) | exact HI313.out)); (case side2 => repeat (first | (with_reducible first | exact HB.out | apply below_alloc | apply pw_below_drewN | apply below_drew1 | refine below_set ?_ (IsS79.ge HI313.out) | refine below_set ?_ GE311.out | refine below_set ?_ GE312.out | refine below_set ?_ GE318.out) | exact HB.out)); rintro e w15 ⟨rfl, hi, hb, hk⟩; refine ⟨_, rfl, ?_⟩; have n0_ := Aside0.mk (KeepBut.blk hk (g' := gb311) (o := .cells #[.int .i64 0, .int .i64 0] 43 (0, 0)) kC NB311_313.out (by simp)); have n1_ := Aside0.mk (KeepBut.blk hk (g' := gb312) (o := .cells #[.int .i64 0, .int .i64 0] 43 (0, 0)) kC NB312_313.out (by simp)); have n2_ := Aside0.mk (KeepBut.blk hk (g' := gb318) (o := .cells #[.int .i64 t314, .int .i64 t315] 43 (0, 0)) (by (with_reducible repeat (first | refine blk_drewN ?_ _ | refine blk_drew ?_ | refine blk_alloc ?_ _)); refine blk_put (cs := #[.int .i64 t314, .int .i64 0]) ?_ 1 _ rfl; (with_reducible repeat (first | refine blk_drewN ?_ _ | refine blk_drew ?_ | refine blk_alloc ?_ _)); refine blk_put (cs := #[.int .i64 0, .int .i64 0]) ?_ 0 _ rfl; (with_reducible repeat (first | refine blk_drewN ?_ _ | refine blk_drew ?_ | refine blk_alloc ?_ _)); exact BK318.out) NB318_313.out (by simp)); have n3_ := Aside0.mk (hb); have n4_ := Aside0.mk (hi); clear BK311; clear BK312; clear BK318; clear HB; clear HI313; have BK311 := n0_; have BK312 := n1_; have BK318 := n2_; have HB := n3_; have HI313 := n4_; clear n0_ n1_ n2_ n3_ n4_; (try clear hb); (try clear hk); (try clear hi)) | ((with_reducible refine gate_dst (N := 8) rfl ?_); refine box_event ?hg (N := 8) ?hd (cs := #[.int .i64 0, .int .i64 0]) (t := 43) ?hr ?_; (case hd => rfl); (case hg => rfl); (case hr => first | (go_simp; done) | (go_simp; rfl)); intro gb323 hg w16 hbox hb; have n0_ := kB BK311 hb; have n1_ := kB BK312 hb; have n2_ := Aside0.mk (IsS79.below (by repeat (first | (with_reducible first | exact HI313.out | apply IsS79.alloc | apply IsS79.drewN | apply IsS79.drew | apply IsS79.set_1 | apply IsS79.set_2 | refine IsS79.far ?_ NB313_311.out _ | refine IsS79.far ?_ NB313_312.out _ | refine IsS79.far ?_ NB313_318.out _) | exact HI313.out)) hb); have n3_ := kB BK318 hb; have n4_ := Aside0.mk (below_step (by repeat (first | (with_reducible first | exact HB.out | apply below_alloc | apply pw_below_drewN | apply below_drew1 | refine below_set ?_ (IsS79.ge HI313.out) | refine below_set ?_ GE311.out | refine below_set ?_ GE312.out | refine below_set ?_ GE318.out) | exact HB.out)) hb); have n5_ := Aside0.mk (hbox); have n6_ := Aside0.mk ((by rw [hg]; exact (below_size (by repeat (first | (with_reducible first | exact HB.out | apply below_alloc | apply pw_below_drewN | apply below_drew1 | refine below_set ?_ (IsS79.ge HI313.out) | refine below_set ?_ GE311.out | refine below_set ?_ GE312.out | refine below_set ?_ GE318.out) | exact HB.out))) : w.heap.size ≤ gb323)); have n7_ := Aside0.mk ((by rw [hg]; exact (below_size (by repeat (first | (with_reducible first | exact HB.out | apply below_alloc | apply pw_below_drewN | apply below_drew1 | refine below_set ?_ (IsS79.ge HI313.out) | refine below_set ?_ GE311.out | refine below_set ?_ GE312.out | refine below_set ?_ GE318.out) | exact HB.out))) : w.heap.size ≤ gb323)); have n8_ := kL BK311 hg; have n9_ := kR BK311 hg; have n10_ := kL BK312 hg; have n11_ := kR BK312 hg; have n12_ := kL BK318 hg; have n13_ := kR BK318 hg; have n14_ := Aside0.mk ((by rw [hg]; exact Nat.ne_of_lt (IsS79.lt (show IsS79 w _ gb313 l0 t321 t322 from by repeat (first | (with_reducible first | exact HI313.out | apply IsS79.alloc | apply IsS79.drewN | apply IsS79.drew | apply IsS79.set_1 | apply IsS79.set_2 | refine IsS79.far ?_ NB313_311.out _ | refine IsS79.far ?_ NB313_312.out _ | refine IsS79.far ?_ NB313_318.out _) | exact HI313.out))) : gb313 ≠ gb323)); have n15_ := Aside0.mk ((by rw [hg]; exact Nat.ne_of_gt (IsS79.lt (show IsS79 w _ gb313 l0 t321 t322 from by repeat (first | (with_reducible first | exact HI313.out | apply IsS79.alloc | apply IsS79.drewN | apply IsS79.drew | apply IsS79.set_1 | apply IsS79.set_2 | refine IsS79.far ?_ NB313_311.out _ | refine IsS79.far ?_ NB313_312.out _ | refine IsS79.far ?_ NB313_318.out _) | exact HI313.out))) : gb323 ≠ gb313)); clear BK311; clear BK312; clear HI313; clear BK318; clear HB; have BK311 := n0_; have BK312 := n1_; have HI313 := n2_; have BK318 := n3_; have HB := n4_; have BK323 := n5_; have GW323 := n6_; have GE323 := n7_; have NB311_323 := n8_; have NB323_311 := n9_; have NB312_323 := n10_; have NB323_312 := n11_; have NB318_323 := n12_; have NB323_318 := n13_; have NB313_323 := n14_; have NB323_313 := n15_; clear n0_ n1_ n2_ n3_ n4_ n5_ n6_ n7_ n8_ n9_ n10_ n11_ n12_ n13_ n14_ n15_; clear hb hbox hg; have hnb17 := NB323_311.out; have hnc17 := NB311_323.out; have hnb18 := NB323_312.out; have hnc18 := NB312_323.out; have hnb19 := NB323_318.out; have hnc19 := NB318_323.out; have hnb20 := NB323_313.out; have hnc20 := NB313_323.out; have hcz21_0 : w16.cell? ⟨gb323, 0, none⟩ = some (.int .i64 0) := (blk_cell BK323.out 0).trans rfl; have hcz21_1 : w16.cell? ⟨gb323, 1, none⟩ = some (.int .i64 0) := (blk_cell BK323.out 1).trans rfl; have hfz21_0 := blk_frozen BK323.out 0; have hfz21_1 := blk_frozen BK323.out 1) | ((with_reducible refine gate_dst (N := 18) rfl ?_); refine Kd.R_lit (Kd.int .i64) _ 3 ?hg (N := 18) ?hd (xs := ([1, 2, 5, 10, 0, 60] : List Int)) (inner := [.int .i64 1, .int .i64 2, .int .i64 5, .int .i64 10, .int .i64 0, .int .i64 60]) (ok := fun _ => True) (okp := fun _ => True) ?hr ?hp (fun _ hk => hk) trivial (Below.refl _ _) (Nat.le_refl _) (by simp) ?_; (case hd => rfl); (case hg => rfl); (case hr => first | (go_simp; done) | (go_simp; rfl)); (case hp => exact (Reps.one (show Kd.M (Kd.int .i64) _ _ _ 1 [.int .i64 1] from rfl) (Reps.one (show Kd.M (Kd.int .i64) _ _ _ 2 [.int .i64 2] from rfl) (Reps.one (show Kd.M (Kd.int .i64) _ _ _ 5 [.int .i64 5] from rfl) (Reps.one (show Kd.M (Kd.int .i64) _ _ _ 10 [.int .i64 10] from rfl) (Reps.one (show Kd.M (Kd.int .i64) _ _ _ 0 [.int .i64 0] from rfl) (Reps.one (show Kd.M (Kd.int .i64) _ _ _ 60 [.int .i64 60] from rfl) (Reps.none _ _)))))))); intro v325 w22 ho23 hb hg_ hnew_; clear hg_ hnew_; (first | rw [← Ny324.out] at ho23 | (simp only [Int.reduceToNat] at ho23; rw [← Ny324.out] at ho23)); have n0_ := Aside0.mk (Kd.R_lower ho23 (below_size (by repeat (first | (with_reducible first | exact HB.out | apply below_alloc | apply pw_below_drewN | apply below_drew1 | refine below_set ?_ (IsS79.ge HI313.out) | refine below_set ?_ GE311.out | refine below_set ?_ GE312.out | refine below_set ?_ GE318.out | refine below_set ?_ GE323.out) | exact HB.out)))); have n1_ := kB BK311 hb; have n2_ := kB BK312 hb; have n3_ := Aside0.mk (IsS79.below (show IsS79 w ((w16.setCell ⟨gb323, 0, none⟩ (.int .i64 t319)).setCell ⟨gb323, 1, none⟩ (.int .i64 t320)) gb313 l0 t321 t322 from by repeat (first | (with_reducible first | exact HI313.out | apply IsS79.alloc | apply IsS79.drewN | apply IsS79.drew | apply IsS79.set_1 | apply IsS79.set_2 | refine IsS79.far ?_ NB313_311.out _ | refine IsS79.far ?_ NB313_312.out _ | refine IsS79.far ?_ NB313_318.out _ | refine IsS79.far ?_ NB313_323.out _) | exact HI313.out)) hb); have n4_ := kB BK318 hb; have n5_ := Aside0.mk (blk_below (g := gb323) (o := .cells #[.int .i64 t319, .int .i64 t320] 43 (0, 0)) (by (with_reducible repeat (first | refine blk_drewN ?_ _ | refine blk_drew ?_ | refine blk_alloc ?_ _)); refine blk_put (cs := #[.int .i64 t319, .int .i64 0]) ?_ 1 _ rfl; (with_reducible repeat (first | refine blk_drewN ?_ _ | refine blk_drew ?_ | refine blk_alloc ?_ _)); refine blk_put (cs := #[.int .i64 0, .int .i64 0]) ?_ 0 _ rfl; (with_reducible repeat (first | refine blk_drewN ?_ _ | refine blk_drew ?_ | refine blk_alloc ?_ _)); exact BK323.out) hb); have n6_ := Aside0.mk (below_step (by repeat (first | (with_reducible first | exact HB.out | apply below_alloc | apply pw_below_drewN | apply below_drew1 | refine below_set ?_ (IsS79.ge HI313.out) | refine below_set ?_ GE311.out | refine below_set ?_ GE312.out | refine below_set ?_ GE318.out | refine below_set ?_ GE323.out) | exact HB.out)) hb); clear BK311; clear BK312; clear HI313; clear BK318; clear BK323; clear HB; have HO326 := n0_; have BK311 := n1_; have BK312 := n2_; have HI313 := n3_; have BK318 := n4_; have BK323 := n5_; have HB := n6_; clear n0_ n1_ n2_ n3_ n4_ n5_ n6_; clear hb ho23; obtain ⟨Ao24, co24, eo24⟩ := Kd.R_slice HO326.out; subst eo24) | ((with_reducible refine gate_callee (f := 79) rfl ?_); refine kE (some 19) Try.func79 #[.pointer (some ⟨gb313, 0, none⟩), .slice Ao24 y324.length co24] rfl ?_; (with_reducible refine (spec_l1Cur_among.calls gb313 l0 t321 t322 _ _ y324 t327 t328 t329 w _ ?side1 ?side2 ?side3 ?side4 ?side5 A4.out).mono ?_); (case side1 => repeat (first | (with_reducible first | exact HI313.out | apply IsS79.alloc | apply IsS79.drewN | apply IsS79.drew | apply IsS79.set_1 | apply IsS79.set_2 | refine IsS79.far ?_ NB313_311.out _ | refine IsS79.far ?_ NB313_312.out _ | refine IsS79.far ?_ NB313_318.out _ | refine IsS79.far ?_ NB313_323.out _) | exact HI313.out)); (case side2 => repeat (first | (with_reducible first | exact HB.out | apply below_alloc | apply pw_below_drewN | apply below_drew1 | refine below_set ?_ (IsS79.ge HI313.out) | refine below_set ?_ GE311.out | refine below_set ?_ GE312.out | refine below_set ?_ GE318.out | refine below_set ?_ GE323.out) | exact HB.out)); (case side3 => repeat (first | exact (Kd.R_reads' HO326.out).2.2 | (with_reducible refine Kd.C_alloc ?_ _) | (with_reducible refine Kd.C_drewN ?_ _) | (with_reducible refine Kd.C_drew ?_))); (case side4 => exact (Kd.R_reads' HO326.out).2.1); (case side5 => exact far_slice (IsS79.own_ne HI313.out HO326.out (by decide))); rintro e w25 ⟨rfl, hi, hb, hk⟩; refine ⟨_, rfl, ?_⟩; have n0_ := Aside0.mk (KeepBut.blk hk (g' := gb311) (o := .cells #[.int .i64 0, .int .i64 0] 43 (0, 0)) kC NB311_313.out (by simp)); have n1_ := Aside0.mk (KeepBut.blk hk (g' := gb312) (o := .cells #[.int .i64 0, .int .i64 0] 43 (0, 0)) kC NB312_313.out (by simp)); have n2_ := Aside0.mk (KeepBut.blk hk (g' := gb318) (o := .cells #[.int .i64 t314, .int .i64 t315] 43 (0, 0)) kC NB318_313.out (by simp)); have n3_ := Aside0.mk (KeepBut.blk hk (g' := gb323) (o := .cells #[.int .i64 t319, .int .i64 t320] 43 (0, 0)) kC NB323_313.out (by simp)); have n4_ := Aside0.mk (Kd.R_mono (Kd.R_keep (IsS79.apart (show IsS79 w _ gb313 l0 t321 t322 from by repeat (first | (with_reducible first | exact HI313.out | apply IsS79.alloc | apply IsS79.drewN | apply IsS79.drew | apply IsS79.set_1 | apply IsS79.set_2 | refine IsS79.far ?_ NB313_311.out _ | refine IsS79.far ?_ NB313_312.out _ | refine IsS79.far ?_ NB313_318.out _ | refine IsS79.far ?_ NB313_323.out _) | exact HI313.out)) (by (with_reducible repeat (first | apply Kd.R_alloc | apply Kd.R_drewN | apply Kd.R_drew)); exact HO326.out) (by decide)) hk (fun _ h => h.2)) (fun _ h => h.1)); have n5_ := Aside0.mk (hb); have n6_ := Aside0.mk (hi); clear BK311; clear BK312; clear BK318; clear BK323; clear HO326; clear HB; clear HI313; have BK311 := n0_; have BK312 := n1_; have BK318 := n2_; have BK323 := n3_; have HO326 := n4_; have HB := n5_; have HI313 := n6_; clear n0_ n1_ n2_ n3_ n4_ n5_ n6_; (try clear hb); (try clear hk); (try clear hi)))
 have n0_ := Aside0.mk (Kd.R_drew HO326.out)
 have n1_ := Aside0.mk (blk_drew BK311.out)
 have n2_ := Aside0.mk (blk_drew BK312.out)
 have n3_ := Aside0.mk (blk_drew BK318.out)
 have n4_ := Aside0.mk (blk_drew BK323.out)
 have n5_ := Aside0.mk (IsS79.drew HI313.out)
 have n6_ := Aside0.mk (below_drew1 HB.out)
 clear HO326
 clear BK311
 clear BK312
 clear BK318
 clear BK323
 clear HI313
 clear HB
 have HO326 := n0_
 have BK311 := n1_
 have BK312 := n2_
 have BK318 := n3_
 have BK323 := n4_
 have HI313 := n5_
 have HB := n6_
 clear n0_ n1_ n2_ n3_ n4_ n5_ n6_
 refine start_ (n := 10) (S := fun w' => w'.cell? ⟨gb318, 0, none⟩ = some (.int .i64 t314) ∧ w'.cell? ⟨gb318, 1, none⟩ = some (.int .i64 t315) ∧ w'.cell? ⟨gb323, 0, none⟩ = some (.int .i64 t319) ∧ w'.cell? ⟨gb323, 1, none⟩ = some (.int .i64 t320)) (ds := []) #[false, false, false, false, false, false, false, false, false, false] (by kernel_rfl) rfl rfl ⟨(blk_cell BK318.out 0).trans rfl, (blk_cell BK318.out 1).trans rfl, (blk_cell BK323.out 0).trans rfl, (blk_cell BK323.out 1).trans rfl⟩ (fun hHeld => ?_); refine with_tabW spec_DrawAgesFromThen.tab5 spec_DrawAgesFromThen.bits5 (fun HT_ HW_ => ?_)
 generalize w25.drew = w26 at HO326 BK311 BK312 BK318 BK323 HI313 HB hHeld ⊢
 refine pure_ (i := 2) (N := some 22) (v := ?_) (a' := ?_) #[false, false, true, false, false, false, false, false, false, false] rfl rfl (any_of HT_.out (by kernel_rfl)) (fun _ _ _ h => h) (Or.inl ⟨by rfl, ?_⟩) ?_ ?_
 rotate_left
 ·intro w'
  go_simp
  with_reducible rfl
 rotate_left
 ·simp only [Act.put, List.setIfInBounds_toArray, List.set_cons_zero, List.set_cons_succ, i64_w, i32_w]
  rfl
 refine pure_ (i := 3) (N := some 23) (v := ?_) (a' := ?_) #[false, false, true, true, false, false, false, false, false, false] rfl rfl (any_of HT_.out (by kernel_rfl)) (fun _ _ _ h => h) (Or.inl ⟨by rfl, ?_⟩) ?_ ?_
 rotate_left
 ·intro w'
  go_simp
  with_reducible rfl
 rotate_left
 ·simp only [Act.put, List.setIfInBounds_toArray, List.set_cons_zero, List.set_cons_succ, i64_w, i32_w]
  rfl
 refine take_ (i := 0) (N := some 20) (v := ?_) (a' := ?_) #[true, false, true, true, false, false, false, false, false, false] rfl rfl (take_ofW HT_.out HW_.out (by kernel_rfl)) (fun _ _ _ h => h) (Or.inl ⟨by rfl, ?_⟩) hHeld ?_ ?_
 rotate_left
 ·rintro w' ⟨s0, s1, s2, s3⟩
  go_simp
  with_reducible rfl
 rotate_left
 ·simp only [Act.put, List.setIfInBounds_toArray, List.set_cons_zero, List.set_cons_succ, i64_w, i32_w]
  rfl
 refine take_ (i := 1) (N := some 21) (v := ?_) (a' := ?_) #[true, true, true, true, false, false, false, false, false, false] rfl rfl (take_ofW HT_.out HW_.out (by kernel_rfl)) (fun _ _ _ h => h) (Or.inl ⟨by rfl, ?_⟩) hHeld ?_ ?_
 rotate_left
 ·rintro w' ⟨s0, s1, s2, s3⟩
  go_simp
  with_reducible rfl
 rotate_left
 ·simp only [Act.put, List.setIfInBounds_toArray, List.set_cons_zero, List.set_cons_succ, i64_w, i32_w]
  rfl
 refine one_ (i := 4) (N := some 24) #[true, true, true, true, true, false, false, false, false, false] rfl rfl (one_of HT_.out (by kernel_rfl)) (by decide) (fun K hK => ?_)
 refine Kd.R_lit_step (Kd.int .i64) _ 3 ?hg (N := 24) ?hd (xs := ([1, 3, 5, 10, 60, 61, 0] : List Int)) (inner := [.int .i64 1, .int .i64 3, .int .i64 5, .int .i64 10, .int .i64 60, .int .i64 61, .int .i64 0]) (ok := fun _ => True) (okp := fun _ => True) ?hr ?hp (fun _ hk => hk) trivial (Below.refl _ _) (Nat.le_refl _) (by simp) ?_; (case hd => rfl); (case hg => rfl); (case hr => first | (go_simp; done) | (go_simp; rfl)); (case hp => exact (Reps.one (show Kd.M (Kd.int .i64) _ _ _ 1 [.int .i64 1] from rfl) (Reps.one (show Kd.M (Kd.int .i64) _ _ _ 3 [.int .i64 3] from rfl) (Reps.one (show Kd.M (Kd.int .i64) _ _ _ 5 [.int .i64 5] from rfl) (Reps.one (show Kd.M (Kd.int .i64) _ _ _ 10 [.int .i64 10] from rfl) (Reps.one (show Kd.M (Kd.int .i64) _ _ _ 60 [.int .i64 60] from rfl) (Reps.one (show Kd.M (Kd.int .i64) _ _ _ 61 [.int .i64 61] from rfl) (Reps.one (show Kd.M (Kd.int .i64) _ _ _ 0 [.int .i64 0] from rfl) (Reps.none _ _)))))))))
 intro v331 w27 ho28 hb hg_ hnew_
 clear hg_ hnew_
 (first | rw [← Ny330.out] at ho28 | (simp only [Int.reduceToNat] at ho28; rw [← Ny330.out] at ho28))
 have n0_ := Aside0.mk (Kd.R_elder' (by (with_reducible repeat (first | apply Kd.R_alloc | apply Kd.R_drewN | apply Kd.R_drew)); exact HO326.out) (Kd.R_base ho28) hb)
 have n1_ := Aside0.mk (Kd.R_lower (Kd.R_new' ho28 (Kd.R_lt (by (with_reducible repeat (first | apply Kd.R_alloc | apply Kd.R_drewN | apply Kd.R_drew)); exact HO326.out))) (below_size (by repeat (first | (with_reducible first | exact HB.out | apply below_alloc | apply pw_below_drewN | apply below_drew1 | refine below_set ?_ (IsS79.ge HI313.out) | refine below_set ?_ GE311.out | refine below_set ?_ GE312.out | refine below_set ?_ GE318.out | refine below_set ?_ GE323.out) | exact HB.out))))
 have n2_ := kB BK311 hb
 have n3_ := kB BK312 hb
 have n4_ := Aside0.mk (IsS79.below (by repeat (first | (with_reducible first | exact HI313.out | apply IsS79.alloc | apply IsS79.drewN | apply IsS79.drew | apply IsS79.set_1 | apply IsS79.set_2 | refine IsS79.far ?_ NB313_311.out _ | refine IsS79.far ?_ NB313_312.out _ | refine IsS79.far ?_ NB313_318.out _ | refine IsS79.far ?_ NB313_323.out _) | exact HI313.out)) hb)
 have n5_ := kB BK318 hb
 have n6_ := kB BK323 hb
 have n7_ := Aside0.mk (below_step (by repeat (first | (with_reducible first | exact HB.out | apply below_alloc | apply pw_below_drewN | apply below_drew1 | refine below_set ?_ (IsS79.ge HI313.out) | refine below_set ?_ GE311.out | refine below_set ?_ GE312.out | refine below_set ?_ GE318.out | refine below_set ?_ GE323.out) | exact HB.out)) hb)
 clear HO326
 clear BK311
 clear BK312
 clear HI313
 clear BK318
 clear BK323
 clear HB
 have HO326 := n0_
 have HO332 := n1_
 have BK311 := n2_
 have BK312 := n3_
 have HI313 := n4_
 have BK318 := n5_
 have BK323 := n6_
 have HB := n7_
 clear n0_ n1_ n2_ n3_ n4_ n5_ n6_ n7_
 clear hb ho28
 obtain ⟨Ao29, co29, eo29⟩ := Kd.R_slice HO332.out
 (first | subst eo29 | (injection eo29 with f1_ f2_ f3_; have f4_ := f1_.symm; have f5_ := f3_.symm; clear f1_ f2_ f3_; subst f4_; subst f5_))
 refine hK.out _ _ ⟨(blk_cell BK318.out 0).trans rfl, (blk_cell BK318.out 1).trans rfl, (blk_cell BK323.out 0).trans rfl, (blk_cell BK323.out 1).trans rfl⟩ (fun hHeld => ?_)
 clear hK K
 refine norm_ (a' := ?_) ?_ ?_
 rotate_left
 ·show Act.put _ (some 24) _ = _
  simp only [Act.put, List.setIfInBounds_toArray, List.set_cons_zero, List.set_cons_succ, i64_w, i32_w]
  rfl
 refine one_ (i := 5) (N := some 25) #[true, true, true, true, true, true, false, false, false, false] rfl rfl (one_of HT_.out (by kernel_rfl)) (by decide) (fun K hK => ?_)
 refine goes_ Try.func79 (by kernel_rfl) rfl #[.pointer (some ⟨gb313, 0, none⟩), .slice Ao29 y330.length co29] (by rfl) rfl rfl (by (try simp only [List.map_toArray, List.map_cons, List.map_nil]); first | done | rfl | (simp only [List.length_drop, List.length_take]; rfl)) ?_
 with_reducible refine (spec_l1Cur_among.calls gb313 l0 t328 t329 _ _ y330 t333 t334 t335 w _ ?side1 ?side2 ?side3 ?side4 ?side5 A5.out).mono ?_
 (case side1 => repeat (first | (with_reducible first | exact HI313.out | apply IsS79.alloc | apply IsS79.drewN | apply IsS79.drew | apply IsS79.set_1 | apply IsS79.set_2 | refine IsS79.far ?_ NB313_311.out _ | refine IsS79.far ?_ NB313_312.out _ | refine IsS79.far ?_ NB313_318.out _ | refine IsS79.far ?_ NB313_323.out _) | exact HI313.out))
 (case side2 => repeat (first | (with_reducible first | exact HB.out | apply below_alloc | apply pw_below_drewN | apply below_drew1 | refine below_set ?_ (IsS79.ge HI313.out) | refine below_set ?_ GE311.out | refine below_set ?_ GE312.out | refine below_set ?_ GE318.out | refine below_set ?_ GE323.out) | exact HB.out))
 (case side3 => repeat (first | exact (Kd.R_reads' HO332.out).2.2 | (with_reducible refine Kd.C_alloc ?_ _) | (with_reducible refine Kd.C_drewN ?_ _) | (with_reducible refine Kd.C_drew ?_)))
 (case side4 => exact (Kd.R_reads' HO332.out).2.1)
 (case side5 => exact far_slice (IsS79.own_ne HI313.out HO332.out (by decide)))
 rintro e w30 ⟨rfl, hi, hb, hk⟩
 refine ⟨_, rfl, ?_⟩
 have n0_ := Aside0.mk (KeepBut.blk hk (g' := gb311) (o := .cells #[.int .i64 0, .int .i64 0] 43 (0, 0)) kC NB311_313.out (by simp))
 have n1_ := Aside0.mk (KeepBut.blk hk (g' := gb312) (o := .cells #[.int .i64 0, .int .i64 0] 43 (0, 0)) kC NB312_313.out (by simp))
 have n2_ := Aside0.mk (KeepBut.blk hk (g' := gb318) (o := .cells #[.int .i64 t314, .int .i64 t315] 43 (0, 0)) kC NB318_313.out (by simp))
 have n3_ := Aside0.mk (KeepBut.blk hk (g' := gb323) (o := .cells #[.int .i64 t319, .int .i64 t320] 43 (0, 0)) kC NB323_313.out (by simp))
 have n4_ := Aside0.mk (Kd.R_mono (Kd.R_keep (IsS79.apart (show IsS79 w _ gb313 l0 t328 t329 from by repeat (first | (with_reducible first | exact HI313.out | apply IsS79.alloc | apply IsS79.drewN | apply IsS79.drew | apply IsS79.set_1 | apply IsS79.set_2 | refine IsS79.far ?_ NB313_311.out _ | refine IsS79.far ?_ NB313_312.out _ | refine IsS79.far ?_ NB313_318.out _ | refine IsS79.far ?_ NB313_323.out _) | exact HI313.out)) (by (with_reducible repeat (first | apply Kd.R_alloc | apply Kd.R_drewN | apply Kd.R_drew)); exact HO326.out) (by decide)) hk (fun _ h => h.2)) (fun _ h => h.1))
 have n5_ := Aside0.mk (Kd.R_mono (Kd.R_keep (IsS79.apart (show IsS79 w _ gb313 l0 t328 t329 from by repeat (first | (with_reducible first | exact HI313.out | apply IsS79.alloc | apply IsS79.drewN | apply IsS79.drew | apply IsS79.set_1 | apply IsS79.set_2 | refine IsS79.far ?_ NB313_311.out _ | refine IsS79.far ?_ NB313_312.out _ | refine IsS79.far ?_ NB313_318.out _ | refine IsS79.far ?_ NB313_323.out _) | exact HI313.out)) (by (with_reducible repeat (first | apply Kd.R_alloc | apply Kd.R_drewN | apply Kd.R_drew)); exact HO332.out) (by decide)) hk (fun _ h => h.2)) (fun _ h => h.1))
 have n6_ := Aside0.mk (hb)
 have n7_ := Aside0.mk (hi)
 clear BK311
 clear BK312
 clear BK318
 clear BK323
 clear HO326
 clear HO332
 clear HB
 clear HI313
 have BK311 := n0_
 have BK312 := n1_
 have BK318 := n2_
 have BK323 := n3_
 have HO326 := n4_
 have HO332 := n5_
 have HB := n6_
 have HI313 := n7_
 clear n0_ n1_ n2_ n3_ n4_ n5_ n6_ n7_
 refine hK.out _ _ ⟨(blk_cell BK318.out 0).trans rfl, (blk_cell BK318.out 1).trans rfl, (blk_cell BK323.out 0).trans rfl, (blk_cell BK323.out 1).trans rfl⟩ (fun hHeld => ?_)
 clear hK K
 refine norm_ (a' := ?_) ?_ ?_
 rotate_left
 ·show Act.put _ (some 25) _ = _
  simp only [Act.put, List.setIfInBounds_toArray, List.set_cons_zero, List.set_cons_succ, i64_w, i32_w]
  rfl
 refine one_ (i := 6) (N := none) #[true, true, true, true, true, true, true, false, false, false] rfl rfl (one_of HT_.out (by kernel_rfl)) (by decide) (fun K hK => ?_)
 have hs31 : w30.cell? ⟨gb311, 0, none⟩ = some (.int .i64 0) := (blk_cell BK311.out 0).trans rfl
 have hfs31 := blk_frozen BK311.out 0
 have hns31_1 := NB312_311.out
 have hns31_2 := NB318_311.out
 have hns31_3 := NB323_311.out
 have hms31_1 := NB311_312.out
 have hms31_2 := NB311_318.out
 have hms31_3 := NB311_323.out
 have hs32 : w30.cell? ⟨gb311, 1, none⟩ = some (.int .i64 0) := (blk_cell BK311.out 1).trans rfl
 have hfs32 := blk_frozen BK311.out 1
 have hns32_1 := NB312_311.out
 have hns32_2 := NB318_311.out
 have hns32_3 := NB323_311.out
 have hms32_1 := NB311_312.out
 have hms32_2 := NB311_318.out
 have hms32_3 := NB311_323.out
 refine skip_ (w1 := ?_) (by rfl) rfl ?_ ?_
 rotate_left
 ·go_simp
  rfl
 refine hK.out _ _ ⟨((cell_far (p := ⟨gb311, _, none⟩) NB318_311.out _).trans (((cell_far (p := ⟨gb311, _, none⟩) NB318_311.out _).trans (hHeld.1)))), ((cell_far (p := ⟨gb311, _, none⟩) NB318_311.out _).trans (((cell_far (p := ⟨gb311, _, none⟩) NB318_311.out _).trans (hHeld.2.1)))), ((cell_far (p := ⟨gb311, _, none⟩) NB323_311.out _).trans (((cell_far (p := ⟨gb311, _, none⟩) NB323_311.out _).trans (hHeld.2.2.1)))), ((cell_far (p := ⟨gb311, _, none⟩) NB323_311.out _).trans (((cell_far (p := ⟨gb311, _, none⟩) NB323_311.out _).trans (hHeld.2.2.2))))⟩ (fun hHeld => ?_)
 clear hK K
 refine one_ (i := 7) (N := none) #[true, true, true, true, true, true, true, true, false, false] rfl rfl (one_of HT_.out (by kernel_rfl)) (by decide) (fun K hK => ?_)
 have hs33 : w30.cell? ⟨gb312, 0, none⟩ = some (.int .i64 0) := (blk_cell BK312.out 0).trans rfl
 have hfs33 := blk_frozen BK312.out 0
 have hns33_0 := NB311_312.out
 have hns33_2 := NB318_312.out
 have hns33_3 := NB323_312.out
 have hms33_0 := NB312_311.out
 have hms33_2 := NB312_318.out
 have hms33_3 := NB312_323.out
 have hs34 : w30.cell? ⟨gb312, 1, none⟩ = some (.int .i64 0) := (blk_cell BK312.out 1).trans rfl
 have hfs34 := blk_frozen BK312.out 1
 have hns34_0 := NB311_312.out
 have hns34_2 := NB318_312.out
 have hns34_3 := NB323_312.out
 have hms34_0 := NB312_311.out
 have hms34_2 := NB312_318.out
 have hms34_3 := NB312_323.out
 refine skip_ (w1 := ?_) (by rfl) rfl ?_ ?_
 rotate_left
 ·go_simp
  rfl
 refine hK.out _ _ ⟨((cell_far (p := ⟨gb312, _, none⟩) NB318_312.out _).trans (((cell_far (p := ⟨gb312, _, none⟩) NB318_312.out _).trans (hHeld.1)))), ((cell_far (p := ⟨gb312, _, none⟩) NB318_312.out _).trans (((cell_far (p := ⟨gb312, _, none⟩) NB318_312.out _).trans (hHeld.2.1)))), ((cell_far (p := ⟨gb312, _, none⟩) NB323_312.out _).trans (((cell_far (p := ⟨gb312, _, none⟩) NB323_312.out _).trans (hHeld.2.2.1)))), ((cell_far (p := ⟨gb312, _, none⟩) NB323_312.out _).trans (((cell_far (p := ⟨gb312, _, none⟩) NB323_312.out _).trans (hHeld.2.2.2))))⟩ (fun hHeld => ?_)
 clear hK K
 refine pure_ (i := 8) (N := some 4) (v := ?_) (a' := ?_) #[true, true, true, true, true, true, true, true, true, false] rfl rfl (any_of HT_.out (by kernel_rfl)) (fun _ _ _ h => h) (Or.inl ⟨by rfl, ?_⟩) ?_ ?_
 rotate_left
 ·intro w'
  go_simp
  with_reducible rfl
 rotate_left
 ·simp only [Act.put, List.setIfInBounds_toArray, List.set_cons_zero, List.set_cons_succ, i64_w, i32_w]
  rfl
 refine pure_ (i := 9) (N := some 5) (v := ?_) (a' := ?_) #[true, true, true, true, true, true, true, true, true, true] rfl rfl (any_of HT_.out (by kernel_rfl)) (fun _ _ _ h => h) (Or.inl ⟨by rfl, ?_⟩) ?_ ?_
 rotate_left
 ·intro w'
  go_simp
  with_reducible rfl
 rotate_left
 ·simp only [Act.put, List.setIfInBounds_toArray, List.set_cons_zero, List.set_cons_succ, i64_w, i32_w]
  rfl
 refine done_ (done_of HT_.out (by kernel_rfl)) ?_
 try go_wp2
 refine bodyPost_ret (results_list (rs := [.cell 2 43, .cell 3 43, .tmp 4, .tmp 5]) rfl (by simp) (.cell gb311 43 #[.int .i64 t314, .int .i64 t315] (0, 0) _ rfl (by (with_reducible repeat (first | refine blk_drewN ?_ _ | refine blk_drew ?_ | refine blk_alloc ?_ _)); refine blk_far ?_ NB311_312.out _; (with_reducible repeat (first | refine blk_drewN ?_ _ | refine blk_drew ?_ | refine blk_alloc ?_ _)); refine blk_far ?_ NB311_312.out _; (with_reducible repeat (first | refine blk_drewN ?_ _ | refine blk_drew ?_ | refine blk_alloc ?_ _)); refine blk_put (cs := #[.int .i64 t314, .int .i64 0]) ?_ 1 _ rfl; (with_reducible repeat (first | refine blk_drewN ?_ _ | refine blk_drew ?_ | refine blk_alloc ?_ _)); refine blk_put (cs := #[.int .i64 0, .int .i64 0]) ?_ 0 _ rfl; (with_reducible repeat (first | refine blk_drewN ?_ _ | refine blk_drew ?_ | refine blk_alloc ?_ _)); exact BK311.out) Try.underlying43 rfl (by kernel_rfl) (.cell gb312 43 #[.int .i64 t319, .int .i64 t320] (0, 0) _ rfl (by (with_reducible repeat (first | refine blk_drewN ?_ _ | refine blk_drew ?_ | refine blk_alloc ?_ _)); refine blk_put (cs := #[.int .i64 t319, .int .i64 0]) ?_ 1 _ rfl; (with_reducible repeat (first | refine blk_drewN ?_ _ | refine blk_drew ?_ | refine blk_alloc ?_ _)); refine blk_put (cs := #[.int .i64 0, .int .i64 0]) ?_ 0 _ rfl; (with_reducible repeat (first | refine blk_drewN ?_ _ | refine blk_drew ?_ | refine blk_alloc ?_ _)); refine blk_far ?_ NB312_311.out _; (with_reducible repeat (first | refine blk_drewN ?_ _ | refine blk_drew ?_ | refine blk_alloc ?_ _)); refine blk_far ?_ NB312_311.out _; (with_reducible repeat (first | refine blk_drewN ?_ _ | refine blk_drew ?_ | refine blk_alloc ?_ _)); exact BK312.out) Try.underlying43 rfl (by kernel_rfl) (.tmp (.tmp .nil))))) rfl ?_
 exact ⟨by first | rfl | (simp [errW_none, errW_some] <;> rfl) | (simp [*, errW_none, errW_some] <;> rfl), by repeat (first | (with_reducible first | exact HB.out | apply below_alloc | apply pw_below_drewN | apply below_drew1 | refine below_set ?_ (IsS79.ge HI313.out) | refine below_set ?_ GE311.out | refine below_set ?_ GE312.out | refine below_set ?_ GE318.out | refine below_set ?_ GE323.out) | exact HB.out)⟩

/-! ### impl_AgesFromThen: function 44 -/
def impl_AgesFromThen.j0 : Nat → Int → Int → Bool → Int → Int → Int → Int → Option (Int × Int × Int × Bool)
 | 0, _, _, _, _, _, _, _ => none
 | k + 1, x2, x3, x35, x337000, x337001, x338000, x338001 => if x35 = true then (some (0, 0, 0, false)) else ((impl_agesFromTwo.f k x337000 x337001 x338000 x338001 (wrap64 (x2 + x3))).bind fun bt342 => (if bt342.2.2.2 = true then (some (wrap64 (bt342.1 + (wrap64 (bt342.2.2.1 * x2))), wrap64 (bt342.2.1 + (wrap64 (bt342.2.2.1 * x2))), bt342.2.2.1, true)) else (some (0, 0, 0, false))))
def impl_AgesFromThen.f (k : Nat) (a0_0 : Int) (a0_1 : Int) (a1_0 : Int) (a1_1 : Int) (a2 : Int) (a3 : Int) : Option (Int × Int × Int × Bool) := (impl_IsRatio.f a0_0 a0_1).bind fun t338 => (if t338 = true then ((impl_IsRatio.f a1_0 a1_1).bind fun t339 => (if t339 = true then ((impl_between.f a2 1 120).bind fun t340 => (if t340 = true then ((impl_between.f a3 1 (wrap64 (120 - a2))).bind fun t341 => (impl_AgesFromThen.j0 k a2 a3 (!t341) a0_0 a0_1 a1_0 a1_1)) else (impl_AgesFromThen.j0 k a2 a3 true a0_0 a0_1 a1_0 a1_1))) else (impl_AgesFromThen.j0 k a2 a3 true a0_0 a0_1 a1_0 a1_1))) else (impl_AgesFromThen.j0 k a2 a3 true a0_0 a0_1 a1_0 a1_1))
set_option maxHeartbeats 8000000 in
set_option maxRecDepth 100000 in
theorem impl_AgesFromThen.calls (k : Nat) (a0_0 : Int) (a0_1 : Int) (a1_0 : Int) (a1_1 : Int) (a2 : Int) (a3 : Int) (r1 : Int) (r2 : Int) (r3 : Int) (r4 : Bool) (w : World) (h : impl_AgesFromThen.f k a0_0 a0_1 a1_0 a1_1 a2 a3 = some (r1, r2, r3, r4)) :
  Calls Try.prog 44 #[.agg #[.int .i64 a0_0, .int .i64 a0_1], .agg #[.int .i64 a1_0, .int .i64 a1_1], .int .i64 a2, .int .i64 a3] w fun e w' => e = .returned (.tuple #[.int .i64 r1, .int .i64 r2, .int .i64 r3, .bool r4]) ∧ Below w.heap.size w w' := by
 have hu43 := Try.underlying43
 have HB := Aside0.mk (Below.refl w.heap.size w)
 have H : ((impl_IsRatio.f a0_0 a0_1).bind fun t338 => (if t338 = true then ((impl_IsRatio.f a1_0 a1_1).bind fun t339 => (if t339 = true then ((impl_between.f a2 1 120).bind fun t340 => (if t340 = true then ((impl_between.f a3 1 (wrap64 (120 - a2))).bind fun t341 => (impl_AgesFromThen.j0 k a2 a3 (!t341) a0_0 a0_1 a1_0 a1_1)) else (impl_AgesFromThen.j0 k a2 a3 true a0_0 a0_1 a1_0 a1_1))) else (impl_AgesFromThen.j0 k a2 a3 true a0_0 a0_1 a1_0 a1_1))) else (impl_AgesFromThen.j0 k a2 a3 true a0_0 a0_1 a1_0 a1_1))) = some (r1, r2, r3, r4) := h
 clear h
 have HC5 := Aside0.mk H
 clear H
 go_enter Try.func44, Try.ntmps44
 go_upto_region 1 with (first | ((with_reducible refine gate_dst (N := 4) rfl ?_); refine box_event ?hg (N := 4) ?hd (cs := #[.int .i64 a0_0, .int .i64 a0_1]) (t := 43) ?hr ?_; (case hd => rfl); (case hg => rfl); (case hr => first | (go_simp; done) | (go_simp; rfl)); intro gb336 hg w6 hbox hb; have n0_ := kH HB hb; have n1_ := Aside0.mk (hbox); have n2_ := kG HB hg; have n3_ := kG HB hg; replace HB := n0_; have BK336 := n1_; have GW336 := n2_; have GE336 := n3_; clear n0_ n1_ n2_ n3_; clear hb hbox hg) | ((with_reducible refine gate_dst (N := 5) rfl ?_); refine box_event ?hg (N := 5) ?hd (cs := #[.int .i64 a1_0, .int .i64 a1_1]) (t := 43) ?hr ?_; (case hd => rfl); (case hg => rfl); (case hr => first | (go_simp; done) | (go_simp; rfl)); intro gb337 hg w7 hbox hb; have n0_ := kB BK336 hb; have n1_ := kH HB hb; have n2_ := Aside0.mk (hbox); have n3_ := kG HB hg; have n4_ := kG HB hg; have n5_ := kL BK336 hg; have n6_ := kR BK336 hg; replace BK336 := n0_; replace HB := n1_; have BK337 := n2_; have GW337 := n3_; have GE337 := n4_; have NB336_337 := n5_; have NB337_336 := n6_; clear n0_ n1_ n2_ n3_ n4_ n5_ n6_; clear hb hbox hg))
 (try simp only [Act.put, List.setIfInBounds_toArray, List.set_cons_zero, List.set_cons_succ])
 go_cut [35] from 1 to 0 (fun v35 wc => ∃ (kq : Nat) (x35_4 : Bool), v35 = .bool x35_4 ∧ Aside0 (impl_AgesFromThen.j0 kq a2 a3 x35_4 a0_0 a0_1 a1_0 a1_1 = some (r1, r2, r3, r4)) ∧ Aside0 (kq ≤ k) ∧ Aside0 (wc.heap[gb336]? = some (.cells #[.int .i64 a0_0, .int .i64 a0_1] 43 (0, 0))) ∧ Aside0 (wc.heap[gb337]? = some (.cells #[.int .i64 a1_0, .int .i64 a1_1] 43 (0, 0))) ∧ Aside0 (Below w.heap.size w wc))
 case first =>
  have H := HC5.out
  clear HC5
  replace H := Option.bind_eq_some_iff.mp H
  obtain ⟨t338, A80, H⟩ := H
  replace H : (if t338 = true then ((impl_IsRatio.f a1_0 a1_1).bind fun t339 => (if t339 = true then ((impl_between.f a2 1 120).bind fun t340 => (if t340 = true then ((impl_between.f a3 1 (wrap64 (120 - a2))).bind fun t341 => (impl_AgesFromThen.j0 k a2 a3 (!t341) a0_0 a0_1 a1_0 a1_1)) else (impl_AgesFromThen.j0 k a2 a3 true a0_0 a0_1 a1_0 a1_1))) else (impl_AgesFromThen.j0 k a2 a3 true a0_0 a0_1 a1_0 a1_1))) else (impl_AgesFromThen.j0 k a2 a3 true a0_0 a0_1 a1_0 a1_1)) = some (r1, r2, r3, r4) := H
  have A8 := Aside0.mk A80
  clear A80
  by_cases c9 : t338 = true
  ·subst c9
   have H1 : ((impl_IsRatio.f a1_0 a1_1).bind fun t339 => (if t339 = true then ((impl_between.f a2 1 120).bind fun t340 => (if t340 = true then ((impl_between.f a3 1 (wrap64 (120 - a2))).bind fun t341 => (impl_AgesFromThen.j0 k a2 a3 (!t341) a0_0 a0_1 a1_0 a1_1)) else (impl_AgesFromThen.j0 k a2 a3 true a0_0 a0_1 a1_0 a1_1))) else (impl_AgesFromThen.j0 k a2 a3 true a0_0 a0_1 a1_0 a1_1))) = some (r1, r2, r3, r4) := by rw [if_pos rfl] at H; exact H
   clear H
   have H := H1
   clear H1
   replace H := Option.bind_eq_some_iff.mp H
   obtain ⟨t339, A100, H⟩ := H
   replace H : (if t339 = true then ((impl_between.f a2 1 120).bind fun t340 => (if t340 = true then ((impl_between.f a3 1 (wrap64 (120 - a2))).bind fun t341 => (impl_AgesFromThen.j0 k a2 a3 (!t341) a0_0 a0_1 a1_0 a1_1)) else (impl_AgesFromThen.j0 k a2 a3 true a0_0 a0_1 a1_0 a1_1))) else (impl_AgesFromThen.j0 k a2 a3 true a0_0 a0_1 a1_0 a1_1)) = some (r1, r2, r3, r4) := H
   have A10 := Aside0.mk A100
   clear A100
   by_cases c11 : t339 = true
   ·subst c11
    have H1 : ((impl_between.f a2 1 120).bind fun t340 => (if t340 = true then ((impl_between.f a3 1 (wrap64 (120 - a2))).bind fun t341 => (impl_AgesFromThen.j0 k a2 a3 (!t341) a0_0 a0_1 a1_0 a1_1)) else (impl_AgesFromThen.j0 k a2 a3 true a0_0 a0_1 a1_0 a1_1))) = some (r1, r2, r3, r4) := by rw [if_pos rfl] at H; exact H
    clear H
    have H := H1
    clear H1
    replace H := Option.bind_eq_some_iff.mp H
    obtain ⟨t340, A120, H⟩ := H
    replace H : (if t340 = true then ((impl_between.f a3 1 (wrap64 (120 - a2))).bind fun t341 => (impl_AgesFromThen.j0 k a2 a3 (!t341) a0_0 a0_1 a1_0 a1_1)) else (impl_AgesFromThen.j0 k a2 a3 true a0_0 a0_1 a1_0 a1_1)) = some (r1, r2, r3, r4) := H
    have A12 := Aside0.mk A120
    clear A120
    by_cases c13 : t340 = true
    ·subst c13
     have H1 : ((impl_between.f a3 1 (wrap64 (120 - a2))).bind fun t341 => (impl_AgesFromThen.j0 k a2 a3 (!t341) a0_0 a0_1 a1_0 a1_1)) = some (r1, r2, r3, r4) := by rw [if_pos rfl] at H; exact H
     clear H
     have H := H1
     clear H1
     replace H := Option.bind_eq_some_iff.mp H
     obtain ⟨t341, A140, H⟩ := H
     replace H : (impl_AgesFromThen.j0 k a2 a3 (!t341) a0_0 a0_1 a1_0 a1_1) = some (r1, r2, r3, r4) := H
     have A14 := Aside0.mk A140
     clear A140
     have H' := Aside0.mk H
     clear H
     have hnb15 := NB336_337.out
     have hnc15 := NB337_336.out
     have hcz16_0 : w7.cell? ⟨gb336, 0, none⟩ = some (.int .i64 a0_0) := (blk_cell BK336.out 0).trans rfl
     have hcz16_1 : w7.cell? ⟨gb336, 1, none⟩ = some (.int .i64 a0_1) := (blk_cell BK336.out 1).trans rfl
     have hfz16_0 := blk_frozen BK336.out 0
     have hfz16_1 := blk_frozen BK336.out 1
     go_wp2_with (first | ((with_reducible refine gate_callee (f := 49) rfl ?_); refine kE (some 17) Try.func49 #[.agg #[.int .i64 a0_0, .int .i64 a0_1]] rfl ?_; (with_reducible refine (impl_IsRatio.calls a0_0 a0_1 true _ A8.out).mono ?_); rintro e w17 ⟨rfl, hb⟩; refine ⟨_, rfl, ?_⟩; have n0_ := kB BK336 hb; have n1_ := kB BK337 hb; have n2_ := kH HB hb; replace BK336 := n0_; replace BK337 := n1_; replace HB := n2_; clear n0_ n1_ n2_; (try clear hb); have hcz18_0 : w17.cell? ⟨gb337, 0, none⟩ = some (.int .i64 a1_0) := (blk_cell BK337.out 0).trans rfl; have hcz18_1 : w17.cell? ⟨gb337, 1, none⟩ = some (.int .i64 a1_1) := (blk_cell BK337.out 1).trans rfl; have hfz18_0 := blk_frozen BK337.out 0; have hfz18_1 := blk_frozen BK337.out 1) | (go_at_call 49; (with_reducible refine (impl_IsRatio.calls a1_0 a1_1 true _ A10.out).mono ?_); rintro e w19 ⟨rfl, hb⟩; have n0_ := kB BK336 hb; have n1_ := kB BK337 hb; have n2_ := kH HB hb; replace BK336 := n0_; replace BK337 := n1_; replace HB := n2_; clear n0_ n1_ n2_; (try clear hb)) | (go_at_call 57; (with_reducible refine (impl_between.calls a2 1 120 true _ A12.out).mono ?_); rintro e w' ⟨rfl, ⟨nd, rfl⟩⟩) | (go_at_call 57; (with_reducible refine (impl_between.calls a3 1 (wrap64 (120 - a2)) t341 _ A14.out).mono ?_); rintro e w' ⟨rfl, ⟨nd, rfl⟩⟩))
     go_meet
     case rel => exact ⟨_, (!t341), (by first | rfl | (simp; done) | (simp [*]; done)), H', ⟨by first | omega | exact Nat.le_refl _⟩, kA, kA, kI⟩
    ·replace c13 := Bool.eq_false_iff.mpr c13
     subst c13
     have H1 : (impl_AgesFromThen.j0 k a2 a3 true a0_0 a0_1 a1_0 a1_1) = some (r1, r2, r3, r4) := by rw [if_neg (show ¬ (false = true) by decide)] at H; exact H
     clear H
     have H := H1
     clear H1
     have H' := Aside0.mk H
     clear H
     have hnb20 := NB336_337.out
     have hnc20 := NB337_336.out
     have hcz21_0 : w7.cell? ⟨gb336, 0, none⟩ = some (.int .i64 a0_0) := (blk_cell BK336.out 0).trans rfl
     have hcz21_1 : w7.cell? ⟨gb336, 1, none⟩ = some (.int .i64 a0_1) := (blk_cell BK336.out 1).trans rfl
     have hfz21_0 := blk_frozen BK336.out 0
     have hfz21_1 := blk_frozen BK336.out 1
     go_wp2_with (first | ((with_reducible refine gate_callee (f := 49) rfl ?_); refine kE (some 17) Try.func49 #[.agg #[.int .i64 a0_0, .int .i64 a0_1]] rfl ?_; (with_reducible refine (impl_IsRatio.calls a0_0 a0_1 true _ A8.out).mono ?_); rintro e w22 ⟨rfl, hb⟩; refine ⟨_, rfl, ?_⟩; have n0_ := kB BK336 hb; have n1_ := kB BK337 hb; have n2_ := kH HB hb; replace BK336 := n0_; replace BK337 := n1_; replace HB := n2_; clear n0_ n1_ n2_; (try clear hb); have hcz23_0 : w22.cell? ⟨gb337, 0, none⟩ = some (.int .i64 a1_0) := (blk_cell BK337.out 0).trans rfl; have hcz23_1 : w22.cell? ⟨gb337, 1, none⟩ = some (.int .i64 a1_1) := (blk_cell BK337.out 1).trans rfl; have hfz23_0 := blk_frozen BK337.out 0; have hfz23_1 := blk_frozen BK337.out 1) | (go_at_call 49; (with_reducible refine (impl_IsRatio.calls a1_0 a1_1 true _ A10.out).mono ?_); rintro e w24 ⟨rfl, hb⟩; have n0_ := kB BK336 hb; have n1_ := kB BK337 hb; have n2_ := kH HB hb; replace BK336 := n0_; replace BK337 := n1_; replace HB := n2_; clear n0_ n1_ n2_; (try clear hb)) | (go_at_call 57; (with_reducible refine (impl_between.calls a2 1 120 false _ A12.out).mono ?_); rintro e w' ⟨rfl, ⟨nd, rfl⟩⟩))
     go_meet
     case rel => exact ⟨_, (true), (by first | rfl | (simp; done) | (simp [*]; done)), H', ⟨by first | omega | exact Nat.le_refl _⟩, kA, kA, kI⟩
   ·replace c11 := Bool.eq_false_iff.mpr c11
    subst c11
    have H1 : (impl_AgesFromThen.j0 k a2 a3 true a0_0 a0_1 a1_0 a1_1) = some (r1, r2, r3, r4) := by rw [if_neg (show ¬ (false = true) by decide)] at H; exact H
    clear H
    have H := H1
    clear H1
    have H' := Aside0.mk H
    clear H
    have hnb25 := NB336_337.out
    have hnc25 := NB337_336.out
    have hcz26_0 : w7.cell? ⟨gb336, 0, none⟩ = some (.int .i64 a0_0) := (blk_cell BK336.out 0).trans rfl
    have hcz26_1 : w7.cell? ⟨gb336, 1, none⟩ = some (.int .i64 a0_1) := (blk_cell BK336.out 1).trans rfl
    have hfz26_0 := blk_frozen BK336.out 0
    have hfz26_1 := blk_frozen BK336.out 1
    go_wp2_with (first | ((with_reducible refine gate_callee (f := 49) rfl ?_); refine kE (some 17) Try.func49 #[.agg #[.int .i64 a0_0, .int .i64 a0_1]] rfl ?_; (with_reducible refine (impl_IsRatio.calls a0_0 a0_1 true _ A8.out).mono ?_); rintro e w27 ⟨rfl, hb⟩; refine ⟨_, rfl, ?_⟩; have n0_ := kB BK336 hb; have n1_ := kB BK337 hb; have n2_ := kH HB hb; replace BK336 := n0_; replace BK337 := n1_; replace HB := n2_; clear n0_ n1_ n2_; (try clear hb); have hcz28_0 : w27.cell? ⟨gb337, 0, none⟩ = some (.int .i64 a1_0) := (blk_cell BK337.out 0).trans rfl; have hcz28_1 : w27.cell? ⟨gb337, 1, none⟩ = some (.int .i64 a1_1) := (blk_cell BK337.out 1).trans rfl; have hfz28_0 := blk_frozen BK337.out 0; have hfz28_1 := blk_frozen BK337.out 1) | (go_at_call 49; (with_reducible refine (impl_IsRatio.calls a1_0 a1_1 false _ A10.out).mono ?_); rintro e w29 ⟨rfl, hb⟩; have n0_ := kB BK336 hb; have n1_ := kB BK337 hb; have n2_ := kH HB hb; replace BK336 := n0_; replace BK337 := n1_; replace HB := n2_; clear n0_ n1_ n2_; (try clear hb)))
    go_meet
    case rel => exact ⟨_, (true), (by first | rfl | (simp; done) | (simp [*]; done)), H', ⟨by first | omega | exact Nat.le_refl _⟩, kA, kA, kI⟩
  ·replace c9 := Bool.eq_false_iff.mpr c9
   subst c9
   have H1 : (impl_AgesFromThen.j0 k a2 a3 true a0_0 a0_1 a1_0 a1_1) = some (r1, r2, r3, r4) := by rw [if_neg (show ¬ (false = true) by decide)] at H; exact H
   clear H
   have H := H1
   clear H1
   have H' := Aside0.mk H
   clear H
   have hnb30 := NB336_337.out
   have hnc30 := NB337_336.out
   have hcz31_0 : w7.cell? ⟨gb336, 0, none⟩ = some (.int .i64 a0_0) := (blk_cell BK336.out 0).trans rfl
   have hcz31_1 : w7.cell? ⟨gb336, 1, none⟩ = some (.int .i64 a0_1) := (blk_cell BK336.out 1).trans rfl
   have hfz31_0 := blk_frozen BK336.out 0
   have hfz31_1 := blk_frozen BK336.out 1
   go_wp2_with (first | ((with_reducible refine gate_callee (f := 49) rfl ?_); refine kE (some 17) Try.func49 #[.agg #[.int .i64 a0_0, .int .i64 a0_1]] rfl ?_; (with_reducible refine (impl_IsRatio.calls a0_0 a0_1 false _ A8.out).mono ?_); rintro e w32 ⟨rfl, hb⟩; refine ⟨_, rfl, ?_⟩; have n0_ := kB BK336 hb; have n1_ := kB BK337 hb; have n2_ := kH HB hb; replace BK336 := n0_; replace BK337 := n1_; replace HB := n2_; clear n0_ n1_ n2_; (try clear hb)))
   go_meet
   case rel => exact ⟨_, (true), (by first | rfl | (simp; done) | (simp [*]; done)), H', ⟨by first | omega | exact Nat.le_refl _⟩, kA, kA, kI⟩
 case rest =>
  clear HC5
  obtain ⟨kq, x35_4, rfl, HA, HJ4, BK336, BK337, HB⟩ := hcut
  cases kq with
  | zero => exact absurd HA.out (by simp [impl_AgesFromThen.j0])
  | succ kj4 =>
   have H := HA.out
   clear HA
   simp only [impl_AgesFromThen.j0] at H
   by_cases c33 : x35_4 = true
   ·subst c33
    have H1 : (some (0, 0, 0, false)) = some (r1, r2, r3, r4) := by rw [if_pos rfl] at H; exact H
    clear H
    have H := H1
    clear H1
    simp only [Option.some.injEq, Prod.mk.injEq] at H
    obtain ⟨rfl, rfl, rfl, rfl⟩ := H
    go_wp2
    refine bodyPost_ret (results_list (rs := [.tmp 8, .tmp 9, .tmp 10, .tmp 11]) rfl (by simp) (.tmp (.tmp (.tmp (.tmp .nil))))) rfl ?_
    exact ⟨by first | rfl | (simp [errW_none, errW_some] <;> rfl) | (simp [*, errW_none, errW_some] <;> rfl), kO⟩
   ·replace c33 := Bool.eq_false_iff.mpr c33
    subst c33
    have H1 : ((impl_agesFromTwo.f kj4 a0_0 a0_1 a1_0 a1_1 (wrap64 (a2 + a3))).bind fun bt342 => (if bt342.2.2.2 = true then (some (wrap64 (bt342.1 + (wrap64 (bt342.2.2.1 * a2))), wrap64 (bt342.2.1 + (wrap64 (bt342.2.2.1 * a2))), bt342.2.2.1, true)) else (some (0, 0, 0, false)))) = some (r1, r2, r3, r4) := by rw [if_neg (show ¬ (false = true) by decide)] at H; exact H
    clear H
    have H := H1
    clear H1
    replace H := Option.bind_eq_some_iff.mp H
    obtain ⟨⟨t342, t343, t344, t345⟩, A340, H⟩ := H
    replace H : (if t345 = true then (some (wrap64 (t342 + (wrap64 (t344 * a2))), wrap64 (t343 + (wrap64 (t344 * a2))), t344, true)) else (some (0, 0, 0, false))) = some (r1, r2, r3, r4) := H
    have A34 := Aside0.mk A340
    clear A340
    by_cases c35 : t345 = true
    ·subst c35
     have H1 : (some (wrap64 (t342 + (wrap64 (t344 * a2))), wrap64 (t343 + (wrap64 (t344 * a2))), t344, true)) = some (r1, r2, r3, r4) := by rw [if_pos rfl] at H; exact H
     clear H
     have H := H1
     clear H1
     simp only [Option.some.injEq, Prod.mk.injEq] at H
     obtain ⟨rfl, rfl, rfl, rfl⟩ := H
     have hnb36 := NB336_337.out
     have hnc36 := NB337_336.out
     have hcz37_0 : wc.cell? ⟨gb336, 0, none⟩ = some (.int .i64 a0_0) := (blk_cell BK336.out 0).trans rfl
     have hcz37_1 : wc.cell? ⟨gb336, 1, none⟩ = some (.int .i64 a0_1) := (blk_cell BK336.out 1).trans rfl
     have hfz37_0 := blk_frozen BK336.out 0
     have hfz37_1 := blk_frozen BK336.out 1
     have hcz38_0 : wc.cell? ⟨gb337, 0, none⟩ = some (.int .i64 a1_0) := (blk_cell BK337.out 0).trans rfl
     have hcz38_1 : wc.cell? ⟨gb337, 1, none⟩ = some (.int .i64 a1_1) := (blk_cell BK337.out 1).trans rfl
     have hfz38_0 := blk_frozen BK337.out 0
     have hfz38_1 := blk_frozen BK337.out 1
     go_wp2_with (first | ((with_reducible refine gate_callee (f := 82) rfl ?_); refine kE (some 42) Try.func82 #[.agg #[.int .i64 a0_0, .int .i64 a0_1], .agg #[.int .i64 a1_0, .int .i64 a1_1], .int .i64 (wrap64 (a2 + a3))] rfl ?_; (with_reducible refine (impl_agesFromTwo.calls kj4 a0_0 a0_1 a1_0 a1_1 (wrap64 (a2 + a3)) t342 t343 t344 true _ A34.out).mono ?_); rintro e w39 ⟨rfl, hb⟩; refine ⟨_, rfl, ?_⟩; have n0_ := kB BK336 hb; have n1_ := kB BK337 hb; have n2_ := kH HB hb; replace BK336 := n0_; replace BK337 := n1_; replace HB := n2_; clear n0_ n1_ n2_; (try clear hb)))
     refine bodyPost_ret (results_list (rs := [.tmp 8, .tmp 9, .tmp 10, .tmp 11]) rfl (by simp) (.tmp (.tmp (.tmp (.tmp .nil))))) rfl ?_
     exact ⟨by first | rfl | (simp [errW_none, errW_some] <;> rfl) | (simp [*, errW_none, errW_some] <;> rfl), kO⟩
    ·replace c35 := Bool.eq_false_iff.mpr c35
     subst c35
     have H1 : (some (0, 0, 0, false)) = some (r1, r2, r3, r4) := by rw [if_neg (show ¬ (false = true) by decide)] at H; exact H
     clear H
     have H := H1
     clear H1
     simp only [Option.some.injEq, Prod.mk.injEq] at H
     obtain ⟨rfl, rfl, rfl, rfl⟩ := H
     have hnb40 := NB336_337.out
     have hnc40 := NB337_336.out
     have hcz41_0 : wc.cell? ⟨gb336, 0, none⟩ = some (.int .i64 a0_0) := (blk_cell BK336.out 0).trans rfl
     have hcz41_1 : wc.cell? ⟨gb336, 1, none⟩ = some (.int .i64 a0_1) := (blk_cell BK336.out 1).trans rfl
     have hfz41_0 := blk_frozen BK336.out 0
     have hfz41_1 := blk_frozen BK336.out 1
     have hcz42_0 : wc.cell? ⟨gb337, 0, none⟩ = some (.int .i64 a1_0) := (blk_cell BK337.out 0).trans rfl
     have hcz42_1 : wc.cell? ⟨gb337, 1, none⟩ = some (.int .i64 a1_1) := (blk_cell BK337.out 1).trans rfl
     have hfz42_0 := blk_frozen BK337.out 0
     have hfz42_1 := blk_frozen BK337.out 1
     go_wp2_with (first | ((with_reducible refine gate_callee (f := 82) rfl ?_); refine kE (some 42) Try.func82 #[.agg #[.int .i64 a0_0, .int .i64 a0_1], .agg #[.int .i64 a1_0, .int .i64 a1_1], .int .i64 (wrap64 (a2 + a3))] rfl ?_; (with_reducible refine (impl_agesFromTwo.calls kj4 a0_0 a0_1 a1_0 a1_1 (wrap64 (a2 + a3)) t342 t343 t344 false _ A34.out).mono ?_); rintro e w43 ⟨rfl, hb⟩; refine ⟨_, rfl, ?_⟩; have n0_ := kB BK336 hb; have n1_ := kB BK337 hb; have n2_ := kH HB hb; replace BK336 := n0_; replace BK337 := n1_; replace HB := n2_; clear n0_ n1_ n2_; (try clear hb)))
     refine bodyPost_ret (results_list (rs := [.tmp 8, .tmp 9, .tmp 10, .tmp 11]) rfl (by simp) (.tmp (.tmp (.tmp (.tmp .nil))))) rfl ?_
     exact ⟨by first | rfl | (simp [errW_none, errW_some] <;> rfl) | (simp [*, errW_none, errW_some] <;> rfl), kO⟩

/-! ### spec_AgesFromThen: function 45 -/
def spec_AgesFromThen.j0 : Nat → Int → Int → Bool → Int → Int → Int → Int → Option (Int × Int × Int × Bool)
 | 0, _, _, _, _, _, _, _ => none
 | k + 1, x2, x3, x29, x347000, x347001, x348000, x348001 => if x29 = true then (some (0, 0, 0, false)) else ((spec_AgesFromTwo.f k x347000 x347001 x348000 x348001 (wrap64 (x2 + x3))).bind fun bt350 => (if bt350.2.2.2 = true then (some (wrap64 (bt350.1 + (wrap64 (x2 * bt350.2.2.1))), wrap64 (bt350.2.1 + (wrap64 (x2 * bt350.2.2.1))), bt350.2.2.1, true)) else (some (0, 0, 0, false))))
def spec_AgesFromThen.f (k : Nat) (a0_0 : Int) (a0_1 : Int) (a1_0 : Int) (a1_1 : Int) (a2 : Int) (a3 : Int) : Option (Int × Int × Int × Bool) := (spec_l1In.f a2 1 120).bind fun t348 => (if t348 = true then ((spec_l1In.f a3 1 120).bind fun t349 => (if t349 = true then (spec_AgesFromThen.j0 k a2 a3 (decide ((wrap64 (a2 + a3)) > 120)) a0_0 a0_1 a1_0 a1_1) else (spec_AgesFromThen.j0 k a2 a3 true a0_0 a0_1 a1_0 a1_1))) else (spec_AgesFromThen.j0 k a2 a3 true a0_0 a0_1 a1_0 a1_1))
set_option maxHeartbeats 8000000 in
set_option maxRecDepth 100000 in
theorem spec_AgesFromThen.calls (k : Nat) (a0_0 : Int) (a0_1 : Int) (a1_0 : Int) (a1_1 : Int) (a2 : Int) (a3 : Int) (r1 : Int) (r2 : Int) (r3 : Int) (r4 : Bool) (w : World) (h : spec_AgesFromThen.f k a0_0 a0_1 a1_0 a1_1 a2 a3 = some (r1, r2, r3, r4)) :
  Calls Try.prog 45 #[.agg #[.int .i64 a0_0, .int .i64 a0_1], .agg #[.int .i64 a1_0, .int .i64 a1_1], .int .i64 a2, .int .i64 a3] w fun e w' => e = .returned (.tuple #[.int .i64 r1, .int .i64 r2, .int .i64 r3, .bool r4]) ∧ Below w.heap.size w w' := by
 have hu43 := Try.underlying43
 have HB := Aside0.mk (Below.refl w.heap.size w)
 have H : ((spec_l1In.f a2 1 120).bind fun t348 => (if t348 = true then ((spec_l1In.f a3 1 120).bind fun t349 => (if t349 = true then (spec_AgesFromThen.j0 k a2 a3 (decide ((wrap64 (a2 + a3)) > 120)) a0_0 a0_1 a1_0 a1_1) else (spec_AgesFromThen.j0 k a2 a3 true a0_0 a0_1 a1_0 a1_1))) else (spec_AgesFromThen.j0 k a2 a3 true a0_0 a0_1 a1_0 a1_1))) = some (r1, r2, r3, r4) := h
 clear h
 have HC5 := Aside0.mk H
 clear H
 go_enter Try.func45, Try.ntmps45
 go_upto_region 1 with (first | ((with_reducible refine gate_dst (N := 4) rfl ?_); refine box_event ?hg (N := 4) ?hd (cs := #[.int .i64 a0_0, .int .i64 a0_1]) (t := 43) ?hr ?_; (case hd => rfl); (case hg => rfl); (case hr => first | (go_simp; done) | (go_simp; rfl)); intro gb346 hg w6 hbox hb; have n0_ := kH HB hb; have n1_ := Aside0.mk (hbox); have n2_ := kG HB hg; have n3_ := kG HB hg; replace HB := n0_; have BK346 := n1_; have GW346 := n2_; have GE346 := n3_; clear n0_ n1_ n2_ n3_; clear hb hbox hg) | ((with_reducible refine gate_dst (N := 5) rfl ?_); refine box_event ?hg (N := 5) ?hd (cs := #[.int .i64 a1_0, .int .i64 a1_1]) (t := 43) ?hr ?_; (case hd => rfl); (case hg => rfl); (case hr => first | (go_simp; done) | (go_simp; rfl)); intro gb347 hg w7 hbox hb; have n0_ := kB BK346 hb; have n1_ := kH HB hb; have n2_ := Aside0.mk (hbox); have n3_ := kG HB hg; have n4_ := kG HB hg; have n5_ := kL BK346 hg; have n6_ := kR BK346 hg; replace BK346 := n0_; replace HB := n1_; have BK347 := n2_; have GW347 := n3_; have GE347 := n4_; have NB346_347 := n5_; have NB347_346 := n6_; clear n0_ n1_ n2_ n3_ n4_ n5_ n6_; clear hb hbox hg))
 (try simp only [Act.put, List.setIfInBounds_toArray, List.set_cons_zero, List.set_cons_succ])
 go_cut [29] from 1 to 0 (fun v29 wc => ∃ (kq : Nat) (x29_4 : Bool), v29 = .bool x29_4 ∧ Aside0 (spec_AgesFromThen.j0 kq a2 a3 x29_4 a0_0 a0_1 a1_0 a1_1 = some (r1, r2, r3, r4)) ∧ Aside0 (kq ≤ k) ∧ Aside0 (wc.heap[gb346]? = some (.cells #[.int .i64 a0_0, .int .i64 a0_1] 43 (0, 0))) ∧ Aside0 (wc.heap[gb347]? = some (.cells #[.int .i64 a1_0, .int .i64 a1_1] 43 (0, 0))) ∧ Aside0 (Below w.heap.size w wc))
 case first =>
  have H := HC5.out
  clear HC5
  replace H := Option.bind_eq_some_iff.mp H
  obtain ⟨t348, A80, H⟩ := H
  replace H : (if t348 = true then ((spec_l1In.f a3 1 120).bind fun t349 => (if t349 = true then (spec_AgesFromThen.j0 k a2 a3 (decide ((wrap64 (a2 + a3)) > 120)) a0_0 a0_1 a1_0 a1_1) else (spec_AgesFromThen.j0 k a2 a3 true a0_0 a0_1 a1_0 a1_1))) else (spec_AgesFromThen.j0 k a2 a3 true a0_0 a0_1 a1_0 a1_1)) = some (r1, r2, r3, r4) := H
  have A8 := Aside0.mk A80
  clear A80
  by_cases c9 : t348 = true
  ·subst c9
   have H1 : ((spec_l1In.f a3 1 120).bind fun t349 => (if t349 = true then (spec_AgesFromThen.j0 k a2 a3 (decide ((wrap64 (a2 + a3)) > 120)) a0_0 a0_1 a1_0 a1_1) else (spec_AgesFromThen.j0 k a2 a3 true a0_0 a0_1 a1_0 a1_1))) = some (r1, r2, r3, r4) := by rw [if_pos rfl] at H; exact H
   clear H
   have H := H1
   clear H1
   replace H := Option.bind_eq_some_iff.mp H
   obtain ⟨t349, A100, H⟩ := H
   replace H : (if t349 = true then (spec_AgesFromThen.j0 k a2 a3 (decide ((wrap64 (a2 + a3)) > 120)) a0_0 a0_1 a1_0 a1_1) else (spec_AgesFromThen.j0 k a2 a3 true a0_0 a0_1 a1_0 a1_1)) = some (r1, r2, r3, r4) := H
   have A10 := Aside0.mk A100
   clear A100
   by_cases c11 : t349 = true
   ·subst c11
    have H1 : (spec_AgesFromThen.j0 k a2 a3 (decide ((wrap64 (a2 + a3)) > 120)) a0_0 a0_1 a1_0 a1_1) = some (r1, r2, r3, r4) := by rw [if_pos rfl] at H; exact H
    clear H
    have H := H1
    clear H1
    have H' := Aside0.mk H
    clear H
    go_wp2_with (first | ((with_reducible refine gate_callee (f := 52) rfl ?_); refine kE (some 17) Try.func52 #[.int .i64 a2, .int .i64 1, .int .i64 120] rfl ?_; (with_reducible refine (spec_l1In.calls a2 1 120 true _ A8.out).mono ?_); rintro e w' ⟨rfl, ⟨nd, rfl⟩⟩; refine ⟨_, rfl, ?_⟩) | (go_at_call 52; (with_reducible refine (spec_l1In.calls a3 1 120 true _ A10.out).mono ?_); rintro e w' ⟨rfl, ⟨nd, rfl⟩⟩))
    go_meet
    case rel => exact ⟨_, (decide ((wrap64 (a2 + a3)) > 120)), (by first | rfl | (simp; done) | (simp [*]; done)), H', ⟨by first | omega | exact Nat.le_refl _⟩, kA, kA, kI⟩
   ·replace c11 := Bool.eq_false_iff.mpr c11
    subst c11
    have H1 : (spec_AgesFromThen.j0 k a2 a3 true a0_0 a0_1 a1_0 a1_1) = some (r1, r2, r3, r4) := by rw [if_neg (show ¬ (false = true) by decide)] at H; exact H
    clear H
    have H := H1
    clear H1
    have H' := Aside0.mk H
    clear H
    go_wp2_with (first | ((with_reducible refine gate_callee (f := 52) rfl ?_); refine kE (some 17) Try.func52 #[.int .i64 a2, .int .i64 1, .int .i64 120] rfl ?_; (with_reducible refine (spec_l1In.calls a2 1 120 true _ A8.out).mono ?_); rintro e w' ⟨rfl, ⟨nd, rfl⟩⟩; refine ⟨_, rfl, ?_⟩) | (go_at_call 52; (with_reducible refine (spec_l1In.calls a3 1 120 false _ A10.out).mono ?_); rintro e w' ⟨rfl, ⟨nd, rfl⟩⟩))
    go_meet
    case rel => exact ⟨_, (true), (by first | rfl | (simp; done) | (simp [*]; done)), H', ⟨by first | omega | exact Nat.le_refl _⟩, kA, kA, kI⟩
  ·replace c9 := Bool.eq_false_iff.mpr c9
   subst c9
   have H1 : (spec_AgesFromThen.j0 k a2 a3 true a0_0 a0_1 a1_0 a1_1) = some (r1, r2, r3, r4) := by rw [if_neg (show ¬ (false = true) by decide)] at H; exact H
   clear H
   have H := H1
   clear H1
   have H' := Aside0.mk H
   clear H
   go_wp2_with (first | ((with_reducible refine gate_callee (f := 52) rfl ?_); refine kE (some 17) Try.func52 #[.int .i64 a2, .int .i64 1, .int .i64 120] rfl ?_; (with_reducible refine (spec_l1In.calls a2 1 120 false _ A8.out).mono ?_); rintro e w' ⟨rfl, ⟨nd, rfl⟩⟩; refine ⟨_, rfl, ?_⟩))
   go_meet
   case rel => exact ⟨_, (true), (by first | rfl | (simp; done) | (simp [*]; done)), H', ⟨by first | omega | exact Nat.le_refl _⟩, kA, kA, kI⟩
 case rest =>
  clear HC5
  obtain ⟨kq, x29_4, rfl, HA, HJ4, BK346, BK347, HB⟩ := hcut
  cases kq with
  | zero => exact absurd HA.out (by simp [spec_AgesFromThen.j0])
  | succ kj4 =>
   have H := HA.out
   clear HA
   simp only [spec_AgesFromThen.j0] at H
   by_cases c12 : x29_4 = true
   ·subst c12
    have H1 : (some (0, 0, 0, false)) = some (r1, r2, r3, r4) := by rw [if_pos rfl] at H; exact H
    clear H
    have H := H1
    clear H1
    simp only [Option.some.injEq, Prod.mk.injEq] at H
    obtain ⟨rfl, rfl, rfl, rfl⟩ := H
    go_wp2
    refine bodyPost_ret (results_list (rs := [.tmp 8, .tmp 9, .tmp 10, .tmp 11]) rfl (by simp) (.tmp (.tmp (.tmp (.tmp .nil))))) rfl ?_
    exact ⟨by first | rfl | (simp [errW_none, errW_some] <;> rfl) | (simp [*, errW_none, errW_some] <;> rfl), kO⟩
   ·replace c12 := Bool.eq_false_iff.mpr c12
    subst c12
    have H1 : ((spec_AgesFromTwo.f kj4 a0_0 a0_1 a1_0 a1_1 (wrap64 (a2 + a3))).bind fun bt350 => (if bt350.2.2.2 = true then (some (wrap64 (bt350.1 + (wrap64 (a2 * bt350.2.2.1))), wrap64 (bt350.2.1 + (wrap64 (a2 * bt350.2.2.1))), bt350.2.2.1, true)) else (some (0, 0, 0, false)))) = some (r1, r2, r3, r4) := by rw [if_neg (show ¬ (false = true) by decide)] at H; exact H
    clear H
    have H := H1
    clear H1
    replace H := Option.bind_eq_some_iff.mp H
    obtain ⟨⟨t350, t351, t352, t353⟩, A130, H⟩ := H
    replace H : (if t353 = true then (some (wrap64 (t350 + (wrap64 (a2 * t352))), wrap64 (t351 + (wrap64 (a2 * t352))), t352, true)) else (some (0, 0, 0, false))) = some (r1, r2, r3, r4) := H
    have A13 := Aside0.mk A130
    clear A130
    by_cases c14 : t353 = true
    ·subst c14
     have H1 : (some (wrap64 (t350 + (wrap64 (a2 * t352))), wrap64 (t351 + (wrap64 (a2 * t352))), t352, true)) = some (r1, r2, r3, r4) := by rw [if_pos rfl] at H; exact H
     clear H
     have H := H1
     clear H1
     simp only [Option.some.injEq, Prod.mk.injEq] at H
     obtain ⟨rfl, rfl, rfl, rfl⟩ := H
     have hnb15 := NB346_347.out
     have hnc15 := NB347_346.out
     have hcz16_0 : wc.cell? ⟨gb346, 0, none⟩ = some (.int .i64 a0_0) := (blk_cell BK346.out 0).trans rfl
     have hcz16_1 : wc.cell? ⟨gb346, 1, none⟩ = some (.int .i64 a0_1) := (blk_cell BK346.out 1).trans rfl
     have hfz16_0 := blk_frozen BK346.out 0
     have hfz16_1 := blk_frozen BK346.out 1
     have hcz17_0 : wc.cell? ⟨gb347, 0, none⟩ = some (.int .i64 a1_0) := (blk_cell BK347.out 0).trans rfl
     have hcz17_1 : wc.cell? ⟨gb347, 1, none⟩ = some (.int .i64 a1_1) := (blk_cell BK347.out 1).trans rfl
     have hfz17_0 := blk_frozen BK347.out 0
     have hfz17_1 := blk_frozen BK347.out 1
     go_wp2_with (first | ((with_reducible refine gate_callee (f := 42) rfl ?_); refine kE (some 36) Try.func42 #[.agg #[.int .i64 a0_0, .int .i64 a0_1], .agg #[.int .i64 a1_0, .int .i64 a1_1], .int .i64 (wrap64 (a2 + a3))] rfl ?_; (with_reducible refine (spec_AgesFromTwo.calls kj4 a0_0 a0_1 a1_0 a1_1 (wrap64 (a2 + a3)) t350 t351 t352 true _ A13.out).mono ?_); rintro e w18 ⟨rfl, hb⟩; refine ⟨_, rfl, ?_⟩; have n0_ := kB BK346 hb; have n1_ := kB BK347 hb; have n2_ := kH HB hb; replace BK346 := n0_; replace BK347 := n1_; replace HB := n2_; clear n0_ n1_ n2_; (try clear hb)))
     refine bodyPost_ret (results_list (rs := [.tmp 8, .tmp 9, .tmp 10, .tmp 11]) rfl (by simp) (.tmp (.tmp (.tmp (.tmp .nil))))) rfl ?_
     exact ⟨by first | rfl | (simp [errW_none, errW_some] <;> rfl) | (simp [*, errW_none, errW_some] <;> rfl), kO⟩
    ·replace c14 := Bool.eq_false_iff.mpr c14
     subst c14
     have H1 : (some (0, 0, 0, false)) = some (r1, r2, r3, r4) := by rw [if_neg (show ¬ (false = true) by decide)] at H; exact H
     clear H
     have H := H1
     clear H1
     simp only [Option.some.injEq, Prod.mk.injEq] at H
     obtain ⟨rfl, rfl, rfl, rfl⟩ := H
     have hnb19 := NB346_347.out
     have hnc19 := NB347_346.out
     have hcz20_0 : wc.cell? ⟨gb346, 0, none⟩ = some (.int .i64 a0_0) := (blk_cell BK346.out 0).trans rfl
     have hcz20_1 : wc.cell? ⟨gb346, 1, none⟩ = some (.int .i64 a0_1) := (blk_cell BK346.out 1).trans rfl
     have hfz20_0 := blk_frozen BK346.out 0
     have hfz20_1 := blk_frozen BK346.out 1
     have hcz21_0 : wc.cell? ⟨gb347, 0, none⟩ = some (.int .i64 a1_0) := (blk_cell BK347.out 0).trans rfl
     have hcz21_1 : wc.cell? ⟨gb347, 1, none⟩ = some (.int .i64 a1_1) := (blk_cell BK347.out 1).trans rfl
     have hfz21_0 := blk_frozen BK347.out 0
     have hfz21_1 := blk_frozen BK347.out 1
     go_wp2_with (first | ((with_reducible refine gate_callee (f := 42) rfl ?_); refine kE (some 36) Try.func42 #[.agg #[.int .i64 a0_0, .int .i64 a0_1], .agg #[.int .i64 a1_0, .int .i64 a1_1], .int .i64 (wrap64 (a2 + a3))] rfl ?_; (with_reducible refine (spec_AgesFromTwo.calls kj4 a0_0 a0_1 a1_0 a1_1 (wrap64 (a2 + a3)) t350 t351 t352 false _ A13.out).mono ?_); rintro e w22 ⟨rfl, hb⟩; refine ⟨_, rfl, ?_⟩; have n0_ := kB BK346 hb; have n1_ := kB BK347 hb; have n2_ := kH HB hb; replace BK346 := n0_; replace BK347 := n1_; replace HB := n2_; clear n0_ n1_ n2_; (try clear hb)))
     refine bodyPost_ret (results_list (rs := [.tmp 8, .tmp 9, .tmp 10, .tmp 11]) rfl (by simp) (.tmp (.tmp (.tmp (.tmp .nil))))) rfl ?_
     exact ⟨by first | rfl | (simp [errW_none, errW_some] <;> rfl) | (simp [*, errW_none, errW_some] <;> rfl), kO⟩

/-! ### spec_DrawIsRatio: function 83 -/
def spec_DrawIsRatio.f (l0 : List Int) : Option (Int × Int) := (spec_l1Cur_ratio.f l0 0 0).bind fun bt356 => (some (bt356.1, bt356.2.1))
set_option maxHeartbeats 8000000 in
set_option maxRecDepth 100000 in
theorem spec_DrawIsRatio.calls (A0 : Option Addr) (c0 : Nat) (l0 : List Int) (r1 : Int) (r2 : Int) (w : World) (hr0 : Kd.C (Kd.int .u8) w A0 l0.length l0) (hc0 : l0.length ≤ c0) (h : spec_DrawIsRatio.f l0 = some (r1, r2)) :
  Calls Try.prog 83 #[.slice A0 l0.length c0] w fun e w' => e = .returned (.agg #[.int .i64 r1, .int .i64 r2]) ∧ Below w.heap.size w w' := by
 have hu43 := Try.underlying43
 have hu79 := Try.underlying79
 have HR0 := Aside0.mk hr0
 have HC0 := Aside0.mk hc0
 clear hr0 hc0
 have HB := Aside0.mk (Below.refl w.heap.size w)
 have H : ((spec_l1Cur_ratio.f l0 0 0).bind fun bt356 => (some (bt356.1, bt356.2.1))) = some (r1, r2) := h
 clear h
 replace H := Option.bind_eq_some_iff.mp H
 obtain ⟨⟨t356, t357, t358, t359⟩, A20, H⟩ := H
 replace H : (some (t356, t357)) = some (r1, r2) := H
 have A2 := Aside0.mk A20
 clear A20
 simp only [Option.some.injEq, Prod.mk.injEq] at H
 obtain ⟨rfl, rfl⟩ := H
 go_enter Try.func83, Try.ntmps83
 go_wp2_with (first | ((with_reducible refine gate_dst (N := 2) rfl ?_); refine box_event ?hg (N := 2) ?hd (cs := #[.int .i64 0, .int .i64 0]) (t := 43) ?hr ?_; (case hd => rfl); (case hg => rfl); (case hr => first | (go_simp; done) | (go_simp; rfl)); intro gb354 hg w3 hbox hb; have n0_ := kH HB hb; have n1_ := Aside0.mk (hbox); have n2_ := kG HB hg; have n3_ := kG HB hg; replace HB := n0_; have BK354 := n1_; have GW354 := n2_; have GE354 := n3_; clear n0_ n1_ n2_ n3_; clear hb hbox hg) | ((with_reducible refine gate_dst (N := 6) rfl ?_); refine box_event ?hg (N := 6) ?hd (cs := #[.slice A0 l0.length c0, .int .i64 0, .int .u64 0]) (t := 79) ?hr ?_; (case hd => rfl); (case hg => rfl); (case hr => first | (go_simp; done) | (go_simp; rfl)); intro gb355 hg w4 hbox hb; have n0_ := kB BK354 hb; have n1_ := kH HB hb; have n2_ := kG HB hg; have n3_ := kG HB hg; have n4_ := kL BK354 hg; have n5_ := kR BK354 hg; have n6_ := Aside0.mk ((⟨_, _, hbox, (by rw [hg]; exact (below_size kO) : w.heap.size ≤ gb355), HR0.out⟩ : IsS79 w w4 gb355 l0 0 0)); replace BK354 := n0_; replace HB := n1_; have GW355 := n2_; have GE355 := n3_; have NB354_355 := n4_; have NB355_354 := n5_; have HI355 := n6_; clear n0_ n1_ n2_ n3_ n4_ n5_ n6_; clear hb hbox hg) | ((with_reducible refine gate_callee (f := 70) rfl ?_); refine kE (some 8) Try.func70 #[.pointer (some ⟨gb355, 0, none⟩)] rfl ?_; (with_reducible refine (spec_l1Cur_ratio.calls gb355 l0 0 0 t356 t357 t358 t359 w _ ?side1 ?side2 A2.out).mono ?_); (case side1 => repeat (first | (with_reducible first | exact HI355.out | apply IsS79.alloc | apply IsS79.drewN | apply IsS79.drew | apply IsS79.set_1 | apply IsS79.set_2 | refine IsS79.far ?_ NB355_354.out _) | exact HI355.out)); (case side2 => repeat (first | (with_reducible first | exact HB.out | apply below_alloc | apply pw_below_drewN | apply below_drew1 | refine below_set ?_ (IsS79.ge HI355.out) | refine below_set ?_ GE354.out) | exact HB.out)); rintro e w5 ⟨rfl, hi, hb, hk⟩; refine ⟨_, rfl, ?_⟩; have n0_ := Aside0.mk (KeepBut.blk hk (g' := gb354) (o := .cells #[.int .i64 0, .int .i64 0] 43 (0, 0)) kC NB354_355.out (by simp)); have n1_ := Aside0.mk (hb); have n2_ := Aside0.mk (hi); clear BK354; clear HB; clear HI355; have BK354 := n0_; have HB := n1_; have HI355 := n2_; clear n0_ n1_ n2_; (try clear hb); (try clear hk); (try clear hi); have hnb6 := NB354_355.out; have hnc6 := NB355_354.out; have hcz7_0 : w5.cell? ⟨gb354, 0, none⟩ = some (.int .i64 0) := (blk_cell BK354.out 0).trans rfl; have hcz7_1 : w5.cell? ⟨gb354, 1, none⟩ = some (.int .i64 0) := (blk_cell BK354.out 1).trans rfl; have hfz7_0 := blk_frozen BK354.out 0; have hfz7_1 := blk_frozen BK354.out 1))
 refine bodyPost_ret (results_cell_row rfl _ _ gb354 43 #[.int .i64 t356, .int .i64 t357] (0, 0) _ rfl (by (with_reducible repeat (first | refine blk_drewN ?_ _ | refine blk_drew ?_ | refine blk_alloc ?_ _)); refine blk_put (cs := #[.int .i64 t356, .int .i64 0]) ?_ 1 _ rfl; (with_reducible repeat (first | refine blk_drewN ?_ _ | refine blk_drew ?_ | refine blk_alloc ?_ _)); refine blk_put (cs := #[.int .i64 0, .int .i64 0]) ?_ 0 _ rfl; (with_reducible repeat (first | refine blk_drewN ?_ _ | refine blk_drew ?_ | refine blk_alloc ?_ _)); exact BK354.out) Try.underlying43 rfl (by kernel_rfl)) rfl ?_
 exact ⟨by first | rfl | (simp [errW_none, errW_some] <;> rfl) | (simp [*, errW_none, errW_some] <;> rfl), by repeat (first | (with_reducible first | exact HB.out | apply below_alloc | apply pw_below_drewN | apply below_drew1 | refine below_set ?_ (IsS79.ge HI355.out) | refine below_set ?_ GE354.out) | exact HB.out)⟩

/-! ### spec_DrawTurnRatio: function 46 -/
def spec_DrawTurnRatio.f (l0 : List Int) : Option (Int × Int) := (spec_DrawIsRatio.f l0).bind fun bt361 => (some (bt361.1, bt361.2))
set_option maxHeartbeats 8000000 in
set_option maxRecDepth 100000 in
theorem spec_DrawTurnRatio.calls (A0 : Option Addr) (c0 : Nat) (l0 : List Int) (r1 : Int) (r2 : Int) (w : World) (hr0 : Kd.C (Kd.int .u8) w A0 l0.length l0) (hc0 : l0.length ≤ c0) (h : spec_DrawTurnRatio.f l0 = some (r1, r2)) :
  Calls Try.prog 46 #[.slice A0 l0.length c0] w fun e w' => e = .returned (.agg #[.int .i64 r1, .int .i64 r2]) ∧ Below w.heap.size w w' := by
 have hu43 := Try.underlying43
 have HR0 := Aside0.mk hr0
 have HC0 := Aside0.mk hc0
 clear hr0 hc0
 have HB := Aside0.mk (Below.refl w.heap.size w)
 have H : ((spec_DrawIsRatio.f l0).bind fun bt361 => (some (bt361.1, bt361.2))) = some (r1, r2) := h
 clear h
 replace H := Option.bind_eq_some_iff.mp H
 obtain ⟨⟨t361, t362⟩, A20, H⟩ := H
 replace H : (some (t361, t362)) = some (r1, r2) := H
 have A2 := Aside0.mk A20
 clear A20
 simp only [Option.some.injEq, Prod.mk.injEq] at H
 obtain ⟨rfl, rfl⟩ := H
 go_enter Try.func46, Try.ntmps46
 go_wp2_with (first | ((with_reducible refine gate_dst (N := 2) rfl ?_); refine box_event ?hg (N := 2) ?hd (cs := #[.int .i64 0, .int .i64 0]) (t := 43) ?hr ?_; (case hd => rfl); (case hg => rfl); (case hr => first | (go_simp; done) | (go_simp; rfl)); intro gb360 hg w3 hbox hb; have n0_ := kH HB hb; have n1_ := Aside0.mk (hbox); have n2_ := kG HB hg; have n3_ := kG HB hg; replace HB := n0_; have BK360 := n1_; have GW360 := n2_; have GE360 := n3_; clear n0_ n1_ n2_ n3_; clear hb hbox hg) | ((with_reducible refine gate_callee (f := 83) rfl ?_); refine kE (some 4) Try.func83 #[.slice A0 l0.length c0] rfl ?_; (with_reducible refine (spec_DrawIsRatio.calls _ _ l0 t361 t362 _ ?side1 ?side2 A2.out).mono ?_); (case side1 => repeat (first | exact (Kd.C_below HR0.out HB.out) | (with_reducible refine Kd.C_alloc ?_ _) | (with_reducible refine Kd.C_drewN ?_ _) | (with_reducible refine Kd.C_drew ?_))); (case side2 => exact HC0.out); rintro e w4 ⟨rfl, hb⟩; refine ⟨_, rfl, ?_⟩; have n0_ := kB BK360 hb; have n1_ := kH HB hb; replace BK360 := n0_; replace HB := n1_; clear n0_ n1_; (try clear hb); have hcz5_0 : w4.cell? ⟨gb360, 0, none⟩ = some (.int .i64 0) := (blk_cell BK360.out 0).trans rfl; have hcz5_1 : w4.cell? ⟨gb360, 1, none⟩ = some (.int .i64 0) := (blk_cell BK360.out 1).trans rfl; have hfz5_0 := blk_frozen BK360.out 0; have hfz5_1 := blk_frozen BK360.out 1))
 refine bodyPost_ret (results_cell_row rfl _ _ gb360 43 #[.int .i64 t361, .int .i64 t362] (0, 0) _ rfl (by (with_reducible repeat (first | refine blk_drewN ?_ _ | refine blk_drew ?_ | refine blk_alloc ?_ _)); refine blk_put (cs := #[.int .i64 t361, .int .i64 0]) ?_ 1 _ rfl; (with_reducible repeat (first | refine blk_drewN ?_ _ | refine blk_drew ?_ | refine blk_alloc ?_ _)); refine blk_put (cs := #[.int .i64 0, .int .i64 0]) ?_ 0 _ rfl; (with_reducible repeat (first | refine blk_drewN ?_ _ | refine blk_drew ?_ | refine blk_alloc ?_ _)); exact BK360.out) Try.underlying43 rfl (by kernel_rfl)) rfl ?_
 exact ⟨by first | rfl | (simp [errW_none, errW_some] <;> rfl) | (simp [*, errW_none, errW_some] <;> rfl), kO⟩

/-! ### impl_TurnRatio: function 47 -/
def impl_TurnRatio.f (a0_0 : Int) (a0_1 : Int) : Option (Int × Int × Bool) := (impl_IsRatio.f a0_0 a0_1).bind fun t365 => (if t365 = true then (some (a0_1, a0_0, true)) else (some (0, 0, false)))
set_option maxHeartbeats 8000000 in
set_option maxRecDepth 100000 in
theorem impl_TurnRatio.calls (a0_0 : Int) (a0_1 : Int) (r1 : Int) (r2 : Int) (r3 : Bool) (w : World) (h : impl_TurnRatio.f a0_0 a0_1 = some (r1, r2, r3)) :
  Calls Try.prog 47 #[.agg #[.int .i64 a0_0, .int .i64 a0_1]] w fun e w' => e = .returned (.tuple #[.agg #[.int .i64 r1, .int .i64 r2], .bool r3]) ∧ Below w.heap.size w w' := by
 have hu43 := Try.underlying43
 have HB := Aside0.mk (Below.refl w.heap.size w)
 have H : ((impl_IsRatio.f a0_0 a0_1).bind fun t365 => (if t365 = true then (some (a0_1, a0_0, true)) else (some (0, 0, false)))) = some (r1, r2, r3) := h
 clear h
 replace H := Option.bind_eq_some_iff.mp H
 obtain ⟨t365, A20, H⟩ := H
 replace H : (if t365 = true then (some (a0_1, a0_0, true)) else (some (0, 0, false))) = some (r1, r2, r3) := H
 have A2 := Aside0.mk A20
 clear A20
 by_cases c3 : t365 = true
 ·subst c3
  have H1 : (some (a0_1, a0_0, true)) = some (r1, r2, r3) := by rw [if_pos rfl] at H; exact H
  clear H
  have H := H1
  clear H1
  simp only [Option.some.injEq, Prod.mk.injEq] at H
  obtain ⟨rfl, rfl, rfl⟩ := H
  go_enter Try.func47, Try.ntmps47
  go_wp2_with (first | ((with_reducible refine gate_dst (N := 1) rfl ?_); refine box_event ?hg (N := 1) ?hd (cs := #[.int .i64 a0_0, .int .i64 a0_1]) (t := 43) ?hr ?_; (case hd => rfl); (case hg => rfl); (case hr => first | (go_simp; done) | (go_simp; rfl)); intro gb363 hg w4 hbox hb; have n0_ := kH HB hb; have n1_ := Aside0.mk (hbox); have n2_ := kG HB hg; have n3_ := kG HB hg; replace HB := n0_; have BK363 := n1_; have GW363 := n2_; have GE363 := n3_; clear n0_ n1_ n2_ n3_; clear hb hbox hg) | ((with_reducible refine gate_dst (N := 2) rfl ?_); refine box_event ?hg (N := 2) ?hd (cs := #[.int .i64 0, .int .i64 0]) (t := 43) ?hr ?_; (case hd => rfl); (case hg => rfl); (case hr => first | (go_simp; done) | (go_simp; rfl)); intro gb364 hg w5 hbox hb; have n0_ := kB BK363 hb; have n1_ := kH HB hb; have n2_ := Aside0.mk (hbox); have n3_ := kG HB hg; have n4_ := kG HB hg; have n5_ := kL BK363 hg; have n6_ := kR BK363 hg; replace BK363 := n0_; replace HB := n1_; have BK364 := n2_; have GW364 := n3_; have GE364 := n4_; have NB363_364 := n5_; have NB364_363 := n6_; clear n0_ n1_ n2_ n3_ n4_ n5_ n6_; clear hb hbox hg; have hnb6 := NB363_364.out; have hnc6 := NB364_363.out; have hcz7_0 : w5.cell? ⟨gb363, 0, none⟩ = some (.int .i64 a0_0) := (blk_cell BK363.out 0).trans rfl; have hcz7_1 : w5.cell? ⟨gb363, 1, none⟩ = some (.int .i64 a0_1) := (blk_cell BK363.out 1).trans rfl; have hfz7_0 := blk_frozen BK363.out 0; have hfz7_1 := blk_frozen BK363.out 1) | ((with_reducible refine gate_callee (f := 49) rfl ?_); refine kE (some 5) Try.func49 #[.agg #[.int .i64 a0_0, .int .i64 a0_1]] rfl ?_; (with_reducible refine (impl_IsRatio.calls a0_0 a0_1 true _ A2.out).mono ?_); rintro e w8 ⟨rfl, hb⟩; refine ⟨_, rfl, ?_⟩; have n0_ := kB BK363 hb; have n1_ := kB BK364 hb; have n2_ := kH HB hb; replace BK363 := n0_; replace BK364 := n1_; replace HB := n2_; clear n0_ n1_ n2_; (try clear hb); have hcz9_0 : w8.cell? ⟨gb363, 0, none⟩ = some (.int .i64 a0_0) := (blk_cell BK363.out 0).trans rfl; have hcz9_1 : w8.cell? ⟨gb363, 1, none⟩ = some (.int .i64 a0_1) := (blk_cell BK363.out 1).trans rfl; have hfz9_0 := blk_frozen BK363.out 0; have hfz9_1 := blk_frozen BK363.out 1; have hcz10_0 : w8.cell? ⟨gb364, 0, none⟩ = some (.int .i64 0) := (blk_cell BK364.out 0).trans rfl; have hcz10_1 : w8.cell? ⟨gb364, 1, none⟩ = some (.int .i64 0) := (blk_cell BK364.out 1).trans rfl; have hfz10_0 := blk_frozen BK364.out 0; have hfz10_1 := blk_frozen BK364.out 1))
  refine bodyPost_ret (results_ct rfl _ _ gb364 43 #[.int .i64 a0_1, .int .i64 a0_0] (0, 0) _ rfl (by (with_reducible repeat (first | refine blk_drewN ?_ _ | refine blk_drew ?_ | refine blk_alloc ?_ _)); refine blk_put (cs := #[.int .i64 a0_1, .int .i64 0]) ?_ 1 _ rfl; (with_reducible repeat (first | refine blk_drewN ?_ _ | refine blk_drew ?_ | refine blk_alloc ?_ _)); refine blk_put (cs := #[.int .i64 0, .int .i64 0]) ?_ 0 _ rfl; (with_reducible repeat (first | refine blk_drewN ?_ _ | refine blk_drew ?_ | refine blk_alloc ?_ _)); exact BK364.out) Try.underlying43 rfl (by kernel_rfl)) rfl ?_
  exact ⟨by first | rfl | (simp [errW_none, errW_some] <;> rfl) | (simp [*, errW_none, errW_some] <;> rfl), kO⟩
 ·replace c3 := Bool.eq_false_iff.mpr c3
  subst c3
  have H1 : (some (0, 0, false)) = some (r1, r2, r3) := by rw [if_neg (show ¬ (false = true) by decide)] at H; exact H
  clear H
  have H := H1
  clear H1
  simp only [Option.some.injEq, Prod.mk.injEq] at H
  obtain ⟨rfl, rfl, rfl⟩ := H
  go_enter Try.func47, Try.ntmps47
  go_wp2_with (first | ((with_reducible refine gate_dst (N := 1) rfl ?_); refine box_event ?hg (N := 1) ?hd (cs := #[.int .i64 a0_0, .int .i64 a0_1]) (t := 43) ?hr ?_; (case hd => rfl); (case hg => rfl); (case hr => first | (go_simp; done) | (go_simp; rfl)); intro gb363 hg w11 hbox hb; have n0_ := kH HB hb; have n1_ := Aside0.mk (hbox); have n2_ := kG HB hg; have n3_ := kG HB hg; replace HB := n0_; have BK363 := n1_; have GW363 := n2_; have GE363 := n3_; clear n0_ n1_ n2_ n3_; clear hb hbox hg) | ((with_reducible refine gate_dst (N := 2) rfl ?_); refine box_event ?hg (N := 2) ?hd (cs := #[.int .i64 0, .int .i64 0]) (t := 43) ?hr ?_; (case hd => rfl); (case hg => rfl); (case hr => first | (go_simp; done) | (go_simp; rfl)); intro gb364 hg w12 hbox hb; have n0_ := kB BK363 hb; have n1_ := kH HB hb; have n2_ := Aside0.mk (hbox); have n3_ := kG HB hg; have n4_ := kG HB hg; have n5_ := kL BK363 hg; have n6_ := kR BK363 hg; replace BK363 := n0_; replace HB := n1_; have BK364 := n2_; have GW364 := n3_; have GE364 := n4_; have NB363_364 := n5_; have NB364_363 := n6_; clear n0_ n1_ n2_ n3_ n4_ n5_ n6_; clear hb hbox hg; have hnb13 := NB363_364.out; have hnc13 := NB364_363.out; have hcz14_0 : w12.cell? ⟨gb363, 0, none⟩ = some (.int .i64 a0_0) := (blk_cell BK363.out 0).trans rfl; have hcz14_1 : w12.cell? ⟨gb363, 1, none⟩ = some (.int .i64 a0_1) := (blk_cell BK363.out 1).trans rfl; have hfz14_0 := blk_frozen BK363.out 0; have hfz14_1 := blk_frozen BK363.out 1) | ((with_reducible refine gate_callee (f := 49) rfl ?_); refine kE (some 5) Try.func49 #[.agg #[.int .i64 a0_0, .int .i64 a0_1]] rfl ?_; (with_reducible refine (impl_IsRatio.calls a0_0 a0_1 false _ A2.out).mono ?_); rintro e w15 ⟨rfl, hb⟩; refine ⟨_, rfl, ?_⟩; have n0_ := kB BK363 hb; have n1_ := kB BK364 hb; have n2_ := kH HB hb; replace BK363 := n0_; replace BK364 := n1_; replace HB := n2_; clear n0_ n1_ n2_; (try clear hb); have hcz16_0 : w15.cell? ⟨gb364, 0, none⟩ = some (.int .i64 0) := (blk_cell BK364.out 0).trans rfl; have hcz16_1 : w15.cell? ⟨gb364, 1, none⟩ = some (.int .i64 0) := (blk_cell BK364.out 1).trans rfl; have hfz16_0 := blk_frozen BK364.out 0; have hfz16_1 := blk_frozen BK364.out 1))
  refine bodyPost_ret (results_ct rfl _ _ gb364 43 #[.int .i64 0, .int .i64 0] (0, 0) _ rfl (by (with_reducible repeat (first | refine blk_drewN ?_ _ | refine blk_drew ?_ | refine blk_alloc ?_ _)); refine blk_put (cs := #[.int .i64 0, .int .i64 0]) ?_ 1 _ rfl; (with_reducible repeat (first | refine blk_drewN ?_ _ | refine blk_drew ?_ | refine blk_alloc ?_ _)); refine blk_put (cs := #[.int .i64 0, .int .i64 0]) ?_ 0 _ rfl; (with_reducible repeat (first | refine blk_drewN ?_ _ | refine blk_drew ?_ | refine blk_alloc ?_ _)); exact BK364.out) Try.underlying43 rfl (by kernel_rfl)) rfl ?_
  exact ⟨by first | rfl | (simp [errW_none, errW_some] <;> rfl) | (simp [*, errW_none, errW_some] <;> rfl), kO⟩

/-! ### spec_TurnRatio: function 48 -/
def spec_TurnRatio.f (a0_0 : Int) (a0_1 : Int) : Option (Int × Int × Bool) := (spec_raGood.f a0_0 a0_1).bind fun t368 => (if t368 = true then (some (a0_1, a0_0, true)) else (some (0, 0, false)))
set_option maxHeartbeats 8000000 in
set_option maxRecDepth 100000 in
theorem spec_TurnRatio.calls (a0_0 : Int) (a0_1 : Int) (r1 : Int) (r2 : Int) (r3 : Bool) (w : World) (h : spec_TurnRatio.f a0_0 a0_1 = some (r1, r2, r3)) :
  Calls Try.prog 48 #[.agg #[.int .i64 a0_0, .int .i64 a0_1]] w fun e w' => e = .returned (.tuple #[.agg #[.int .i64 r1, .int .i64 r2], .bool r3]) ∧ Below w.heap.size w w' := by
 have hu43 := Try.underlying43
 have HB := Aside0.mk (Below.refl w.heap.size w)
 have H : ((spec_raGood.f a0_0 a0_1).bind fun t368 => (if t368 = true then (some (a0_1, a0_0, true)) else (some (0, 0, false)))) = some (r1, r2, r3) := h
 clear h
 replace H := Option.bind_eq_some_iff.mp H
 obtain ⟨t368, A20, H⟩ := H
 replace H : (if t368 = true then (some (a0_1, a0_0, true)) else (some (0, 0, false))) = some (r1, r2, r3) := H
 have A2 := Aside0.mk A20
 clear A20
 by_cases c3 : t368 = true
 ·subst c3
  have H1 : (some (a0_1, a0_0, true)) = some (r1, r2, r3) := by rw [if_pos rfl] at H; exact H
  clear H
  have H := H1
  clear H1
  simp only [Option.some.injEq, Prod.mk.injEq] at H
  obtain ⟨rfl, rfl, rfl⟩ := H
  go_enter Try.func48, Try.ntmps48
  go_wp2_with (first | ((with_reducible refine gate_dst (N := 1) rfl ?_); refine box_event ?hg (N := 1) ?hd (cs := #[.int .i64 a0_0, .int .i64 a0_1]) (t := 43) ?hr ?_; (case hd => rfl); (case hg => rfl); (case hr => first | (go_simp; done) | (go_simp; rfl)); intro gb366 hg w4 hbox hb; have n0_ := kH HB hb; have n1_ := Aside0.mk (hbox); have n2_ := kG HB hg; have n3_ := kG HB hg; replace HB := n0_; have BK366 := n1_; have GW366 := n2_; have GE366 := n3_; clear n0_ n1_ n2_ n3_; clear hb hbox hg) | ((with_reducible refine gate_dst (N := 2) rfl ?_); refine box_event ?hg (N := 2) ?hd (cs := #[.int .i64 0, .int .i64 0]) (t := 43) ?hr ?_; (case hd => rfl); (case hg => rfl); (case hr => first | (go_simp; done) | (go_simp; rfl)); intro gb367 hg w5 hbox hb; have n0_ := kB BK366 hb; have n1_ := kH HB hb; have n2_ := Aside0.mk (hbox); have n3_ := kG HB hg; have n4_ := kG HB hg; have n5_ := kL BK366 hg; have n6_ := kR BK366 hg; replace BK366 := n0_; replace HB := n1_; have BK367 := n2_; have GW367 := n3_; have GE367 := n4_; have NB366_367 := n5_; have NB367_366 := n6_; clear n0_ n1_ n2_ n3_ n4_ n5_ n6_; clear hb hbox hg; have hnb6 := NB366_367.out; have hnc6 := NB367_366.out; have hcz7_0 : w5.cell? ⟨gb366, 0, none⟩ = some (.int .i64 a0_0) := (blk_cell BK366.out 0).trans rfl; have hcz7_1 : w5.cell? ⟨gb366, 1, none⟩ = some (.int .i64 a0_1) := (blk_cell BK366.out 1).trans rfl; have hfz7_0 := blk_frozen BK366.out 0; have hfz7_1 := blk_frozen BK366.out 1) | ((with_reducible refine gate_callee (f := 74) rfl ?_); refine kE (some 5) Try.func74 #[.agg #[.int .i64 a0_0, .int .i64 a0_1]] rfl ?_; (with_reducible refine (spec_raGood.calls a0_0 a0_1 true _ A2.out).mono ?_); rintro e w8 ⟨rfl, hb⟩; refine ⟨_, rfl, ?_⟩; have n0_ := kB BK366 hb; have n1_ := kB BK367 hb; have n2_ := kH HB hb; replace BK366 := n0_; replace BK367 := n1_; replace HB := n2_; clear n0_ n1_ n2_; (try clear hb); have hcz9_0 : w8.cell? ⟨gb366, 0, none⟩ = some (.int .i64 a0_0) := (blk_cell BK366.out 0).trans rfl; have hcz9_1 : w8.cell? ⟨gb366, 1, none⟩ = some (.int .i64 a0_1) := (blk_cell BK366.out 1).trans rfl; have hfz9_0 := blk_frozen BK366.out 0; have hfz9_1 := blk_frozen BK366.out 1; have hcz10_0 : w8.cell? ⟨gb367, 0, none⟩ = some (.int .i64 0) := (blk_cell BK367.out 0).trans rfl; have hcz10_1 : w8.cell? ⟨gb367, 1, none⟩ = some (.int .i64 0) := (blk_cell BK367.out 1).trans rfl; have hfz10_0 := blk_frozen BK367.out 0; have hfz10_1 := blk_frozen BK367.out 1))
  refine bodyPost_ret (results_ct rfl _ _ gb367 43 #[.int .i64 a0_1, .int .i64 a0_0] (0, 0) _ rfl (by (with_reducible repeat (first | refine blk_drewN ?_ _ | refine blk_drew ?_ | refine blk_alloc ?_ _)); refine blk_put (cs := #[.int .i64 a0_1, .int .i64 0]) ?_ 1 _ rfl; (with_reducible repeat (first | refine blk_drewN ?_ _ | refine blk_drew ?_ | refine blk_alloc ?_ _)); refine blk_put (cs := #[.int .i64 0, .int .i64 0]) ?_ 0 _ rfl; (with_reducible repeat (first | refine blk_drewN ?_ _ | refine blk_drew ?_ | refine blk_alloc ?_ _)); exact BK367.out) Try.underlying43 rfl (by kernel_rfl)) rfl ?_
  exact ⟨by first | rfl | (simp [errW_none, errW_some] <;> rfl) | (simp [*, errW_none, errW_some] <;> rfl), kO⟩
 ·replace c3 := Bool.eq_false_iff.mpr c3
  subst c3
  have H1 : (some (0, 0, false)) = some (r1, r2, r3) := by rw [if_neg (show ¬ (false = true) by decide)] at H; exact H
  clear H
  have H := H1
  clear H1
  simp only [Option.some.injEq, Prod.mk.injEq] at H
  obtain ⟨rfl, rfl, rfl⟩ := H
  go_enter Try.func48, Try.ntmps48
  go_wp2_with (first | ((with_reducible refine gate_dst (N := 1) rfl ?_); refine box_event ?hg (N := 1) ?hd (cs := #[.int .i64 a0_0, .int .i64 a0_1]) (t := 43) ?hr ?_; (case hd => rfl); (case hg => rfl); (case hr => first | (go_simp; done) | (go_simp; rfl)); intro gb366 hg w11 hbox hb; have n0_ := kH HB hb; have n1_ := Aside0.mk (hbox); have n2_ := kG HB hg; have n3_ := kG HB hg; replace HB := n0_; have BK366 := n1_; have GW366 := n2_; have GE366 := n3_; clear n0_ n1_ n2_ n3_; clear hb hbox hg) | ((with_reducible refine gate_dst (N := 2) rfl ?_); refine box_event ?hg (N := 2) ?hd (cs := #[.int .i64 0, .int .i64 0]) (t := 43) ?hr ?_; (case hd => rfl); (case hg => rfl); (case hr => first | (go_simp; done) | (go_simp; rfl)); intro gb367 hg w12 hbox hb; have n0_ := kB BK366 hb; have n1_ := kH HB hb; have n2_ := Aside0.mk (hbox); have n3_ := kG HB hg; have n4_ := kG HB hg; have n5_ := kL BK366 hg; have n6_ := kR BK366 hg; replace BK366 := n0_; replace HB := n1_; have BK367 := n2_; have GW367 := n3_; have GE367 := n4_; have NB366_367 := n5_; have NB367_366 := n6_; clear n0_ n1_ n2_ n3_ n4_ n5_ n6_; clear hb hbox hg; have hnb13 := NB366_367.out; have hnc13 := NB367_366.out; have hcz14_0 : w12.cell? ⟨gb366, 0, none⟩ = some (.int .i64 a0_0) := (blk_cell BK366.out 0).trans rfl; have hcz14_1 : w12.cell? ⟨gb366, 1, none⟩ = some (.int .i64 a0_1) := (blk_cell BK366.out 1).trans rfl; have hfz14_0 := blk_frozen BK366.out 0; have hfz14_1 := blk_frozen BK366.out 1) | ((with_reducible refine gate_callee (f := 74) rfl ?_); refine kE (some 5) Try.func74 #[.agg #[.int .i64 a0_0, .int .i64 a0_1]] rfl ?_; (with_reducible refine (spec_raGood.calls a0_0 a0_1 false _ A2.out).mono ?_); rintro e w15 ⟨rfl, hb⟩; refine ⟨_, rfl, ?_⟩; have n0_ := kB BK366 hb; have n1_ := kB BK367 hb; have n2_ := kH HB hb; replace BK366 := n0_; replace BK367 := n1_; replace HB := n2_; clear n0_ n1_ n2_; (try clear hb); have hcz16_0 : w15.cell? ⟨gb367, 0, none⟩ = some (.int .i64 0) := (blk_cell BK367.out 0).trans rfl; have hcz16_1 : w15.cell? ⟨gb367, 1, none⟩ = some (.int .i64 0) := (blk_cell BK367.out 1).trans rfl; have hfz16_0 := blk_frozen BK367.out 0; have hfz16_1 := blk_frozen BK367.out 1))
  refine bodyPost_ret (results_ct rfl _ _ gb367 43 #[.int .i64 0, .int .i64 0] (0, 0) _ rfl (by (with_reducible repeat (first | refine blk_drewN ?_ _ | refine blk_drew ?_ | refine blk_alloc ?_ _)); refine blk_put (cs := #[.int .i64 0, .int .i64 0]) ?_ 1 _ rfl; (with_reducible repeat (first | refine blk_drewN ?_ _ | refine blk_drew ?_ | refine blk_alloc ?_ _)); refine blk_put (cs := #[.int .i64 0, .int .i64 0]) ?_ 0 _ rfl; (with_reducible repeat (first | refine blk_drewN ?_ _ | refine blk_drew ?_ | refine blk_alloc ?_ _)); exact BK367.out) Try.underlying43 rfl (by kernel_rfl)) rfl ?_
  exact ⟨by first | rfl | (simp [errW_none, errW_some] <;> rfl) | (simp [*, errW_none, errW_some] <;> rfl), kO⟩

/-! ### spec_IsRatio: function 50 -/
def spec_IsRatio.f (a0_0 : Int) (a0_1 : Int) : Option (Bool) := (spec_raGood.f a0_0 a0_1).bind fun t370 => (some t370)
set_option maxHeartbeats 8000000 in
set_option maxRecDepth 100000 in
theorem spec_IsRatio.calls (a0_0 : Int) (a0_1 : Int) (r : Bool) (w : World) (h : spec_IsRatio.f a0_0 a0_1 = some r) :
  Calls Try.prog 50 #[.agg #[.int .i64 a0_0, .int .i64 a0_1]] w fun e w' => e = .returned (.bool r) ∧ Below w.heap.size w w' := by
 have hu43 := Try.underlying43
 have HB := Aside0.mk (Below.refl w.heap.size w)
 have H : ((spec_raGood.f a0_0 a0_1).bind fun t370 => (some t370)) = some r := h
 clear h
 replace H := Option.bind_eq_some_iff.mp H
 obtain ⟨t370, A20, H⟩ := H
 replace H : (some t370) = some r := H
 have A2 := Aside0.mk A20
 clear A20
 obtain rfl := Option.some.inj H
 go_enter Try.func50, Try.ntmps50
 go_wp2_with (first | ((with_reducible refine gate_dst (N := 1) rfl ?_); refine box_event ?hg (N := 1) ?hd (cs := #[.int .i64 a0_0, .int .i64 a0_1]) (t := 43) ?hr ?_; (case hd => rfl); (case hg => rfl); (case hr => first | (go_simp; done) | (go_simp; rfl)); intro gb369 hg w3 hbox hb; have n0_ := kH HB hb; have n1_ := Aside0.mk (hbox); have n2_ := kG HB hg; have n3_ := kG HB hg; replace HB := n0_; have BK369 := n1_; have GW369 := n2_; have GE369 := n3_; clear n0_ n1_ n2_ n3_; clear hb hbox hg; have hcz4_0 : w3.cell? ⟨gb369, 0, none⟩ = some (.int .i64 a0_0) := (blk_cell BK369.out 0).trans rfl; have hcz4_1 : w3.cell? ⟨gb369, 1, none⟩ = some (.int .i64 a0_1) := (blk_cell BK369.out 1).trans rfl; have hfz4_0 := blk_frozen BK369.out 0; have hfz4_1 := blk_frozen BK369.out 1) | ((with_reducible refine gate_callee (f := 74) rfl ?_); refine kE (some 4) Try.func74 #[.agg #[.int .i64 a0_0, .int .i64 a0_1]] rfl ?_; (with_reducible refine (spec_raGood.calls a0_0 a0_1 t370 _ A2.out).mono ?_); rintro e w5 ⟨rfl, hb⟩; refine ⟨_, rfl, ?_⟩; have n0_ := kB BK369 hb; have n1_ := kH HB hb; replace BK369 := n0_; replace HB := n1_; clear n0_ n1_; (try clear hb)))
 go_ret
 exact ⟨by first | rfl | (simp [errW_none, errW_some] <;> rfl) | (simp [*, errW_none, errW_some] <;> rfl), kO⟩

end Go.Proofs.Ytnbolemfldmohaa.P
