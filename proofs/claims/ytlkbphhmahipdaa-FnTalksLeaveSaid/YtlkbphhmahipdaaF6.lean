/- Calls of the functions of the given program return what the plain Lean functions of the same names return; and a row of a law out of its pure statement. Written by a program of this session out of the translation; Lean checks it. No condition. -/
import Derived.Test.YtlkbphhmahipdaaPx0
import Derived.Test.YtlkbphhmahipdaaPx31
import Derived.Test.YtlkbphhmahipdaaF2
import Derived.Test.YtlkbphhmahipdaaF0
import Derived.Test.YtlkbphhmahipdaaF1
import Derived.Test.YtlkbphhmahipdaaF5
import Derived.Test.YtlkbphhmahipdaaTs
import Derived.BigQuiet
namespace Go.Proofs.Ytlkbphhmahipdaa.P
open Go.RowKit Go.Proofs.YtlkbphhmahipdaaW.PrintWords Go.Proofs.YtlkbphhmahipdaaW.PrintLast Go.Proofs.YtlkbphhmahipdaaW.PrintMore
attribute [local go_sem] max2_int min2_int max_two min_two max_three min_three max_four min_four   -- for this text's walks alone
set_option linter.unusedVariables false
set_option linter.unusedSimpArgs false

/-! ### spec_DrawPairsOfProduct: function 64 -/
def spec_DrawPairsOfProduct.f (l0 : List Int) : Option (Int × Int) := (spec_l1Cur_limit.f l0 0 0).bind fun bt244 => ((spec_l1Cur_among.f l0 bt244.2.1 bt244.2.2 (([1, 4, 6, 12, 16, 24, 36, 1600, 1601, 0, (-1), 4611686018427387904] : List Int))).bind fun bt250 => (some (bt244.1, bt250.1)))
set_option maxHeartbeats 8000000 in
set_option maxRecDepth 100000 in
theorem spec_DrawPairsOfProduct.calls (A0 : Option Addr) (c0 : Nat) (l0 : List Int) (r1 : Int) (r2 : Int) (w : World) (hr0 : Kd.C (Kd.int .u8) w A0 l0.length l0) (hc0 : l0.length ≤ c0) (h : spec_DrawPairsOfProduct.f l0 = some (r1, r2)) :
    Calls Try.prog 64 #[.slice A0 l0.length c0] w fun e w' => e = .returned (.tuple #[.int .i64 r1, .int .i64 r2]) ∧ Below w.heap.size w w' := by
  have hu81 := Try.underlying81
  have HR0 := Aside0.mk hr0
  have HC0 := Aside0.mk hc0
  clear hr0 hc0
  have HB := Aside0.mk (Below.refl w.heap.size w)
  have H : ((spec_l1Cur_limit.f l0 0 0).bind fun bt244 => ((spec_l1Cur_among.f l0 bt244.2.1 bt244.2.2 (([1, 4, 6, 12, 16, 24, 36, 1600, 1601, 0, (-1), 4611686018427387904] : List Int))).bind fun bt250 => (some (bt244.1, bt250.1)))) = some (r1, r2) := h
  clear h
  replace H := Option.bind_eq_some_iff.mp H
  obtain ⟨⟨t244, t245, t246⟩, A20, H⟩ := H
  replace H : ((spec_l1Cur_among.f l0 t245 t246 (([1, 4, 6, 12, 16, 24, 36, 1600, 1601, 0, (-1), 4611686018427387904] : List Int))).bind fun bt250 => (some (t244, bt250.1))) = some (r1, r2) := H
  have A2 := Aside0.mk A20
  clear A20
  obtain ⟨y247, hy247⟩ : ∃ y_ : List Int, y_ = (([1, 4, 6, 12, 16, 24, 36, 1600, 1601, 0, (-1), 4611686018427387904] : List Int)) := ⟨_, rfl⟩
  replace H : ((spec_l1Cur_among.f l0 t245 t246 y247).bind fun bt250 => (some (t244, bt250.1))) = some (r1, r2) := by first | (rw [hy247]; with_reducible exact H) | (have H2_ := (Option.bind_some _ _).symm.trans H; rw [hy247]; with_reducible exact H2_) | (have H2_ := (Option.bind_some _ _).symm.trans H; with_reducible exact H2_) | with_reducible exact H | (rw [hy247]; exact H) | exact H
  have Ny247 := Aside0.mk hy247
  clear hy247
  replace H := Option.bind_eq_some_iff.mp H
  obtain ⟨⟨t250, t251, t252⟩, A30, H⟩ := H
  replace H : (some (t244, t250)) = some (r1, r2) := H
  have A3 := Aside0.mk A30
  clear A30
  simp only [Option.some.injEq, Prod.mk.injEq] at H
  obtain ⟨rfl, rfl⟩ := H
  go_enter Try.func64, Try.ntmps64
  go_wp2_with (first | ((with_reducible refine gate_dst (N := 8) rfl ?_); refine box_event ?hg (N := 8) ?hd (cs := #[.slice A0 l0.length c0, .int .i64 0, .int .u64 0]) (t := 81) ?hr ?_; (case hd => rfl); (case hg => rfl); (case hr => first | (go_simp; done) | (go_simp; rfl)); intro gb243 hg w4 hbox hb; have n0_ := Aside0.mk (below_step (by repeat (first | (with_reducible first | exact HB.out | apply below_alloc | apply pw_below_drewN | apply below_drew1) | exact HB.out)) hb); have n1_ := Aside0.mk ((by rw [hg]; exact (below_size (by repeat (first | (with_reducible first | exact HB.out | apply below_alloc | apply pw_below_drewN | apply below_drew1) | exact HB.out))) : w.heap.size ≤ gb243)); have n2_ := Aside0.mk ((by rw [hg]; exact (below_size (by repeat (first | (with_reducible first | exact HB.out | apply below_alloc | apply pw_below_drewN | apply below_drew1) | exact HB.out))) : w.heap.size ≤ gb243)); have n3_ := Aside0.mk ((⟨_, _, hbox, (by rw [hg]; exact (below_size (by repeat (first | (with_reducible first | exact HB.out | apply below_alloc | apply pw_below_drewN | apply below_drew1) | exact HB.out))) : w.heap.size ≤ gb243), HR0.out⟩ : IsS81 w w4 gb243 l0 0 0)); clear HB; have HB := n0_; have GW243 := n1_; have GE243 := n2_; have HI243 := n3_; clear n0_ n1_ n2_ n3_; clear hb hbox hg) | ((with_reducible refine gate_callee (f := 84) rfl ?_); refine goesL_ (some 10) rfl rfl Try.func84 (by kernel_rfl) rfl #[.pointer (some ⟨gb243, 0, none⟩)] rfl (by (try simp only [List.map_toArray, List.map_cons, List.map_nil]); first | done | rfl | (simp only [List.length_drop, List.length_take]; rfl)) ?_; (with_reducible refine (spec_l1Cur_limit.calls gb243 l0 0 0 t244 t245 t246 w _ ?side1 ?side2 A2.out).mono ?_); (case side1 => repeat (first | (with_reducible first | exact HI243.out | apply IsS81.alloc | apply IsS81.drewN | apply IsS81.drew | apply IsS81.set_1 | apply IsS81.set_2) | exact HI243.out)); (case side2 => repeat (first | (with_reducible first | exact HB.out | apply below_alloc | apply pw_below_drewN | apply below_drew1 | refine below_set ?_ (IsS81.ge HI243.out)) | exact HB.out)); rintro e w5 ⟨rfl, hi, hb, hk⟩; refine ⟨_, rfl, ?_⟩; have n0_ := Aside0.mk (hb); have n1_ := Aside0.mk (hi); clear HB; clear HI243; have HB := n0_; have HI243 := n1_; clear n0_ n1_; (try clear hb); (try clear hb2); (try clear hk); (try clear hi)) | ((with_reducible refine gate_dst (N := 13) rfl ?_); refine Kd.R_lit (Kd.int .i64) _ 3 ?hg (N := 13) ?hd (xs := ([1, 4, 6, 12, 16, 24, 36, 1600, 1601, 0, (-1), 4611686018427387904] : List Int)) (inner := [.int .i64 1, .int .i64 4, .int .i64 6, .int .i64 12, .int .i64 16, .int .i64 24, .int .i64 36, .int .i64 1600, .int .i64 1601, .int .i64 0, .int .i64 (-1), .int .i64 4611686018427387904]) (ok := fun _ => True) (okp := fun _ => True) ?hr ?hp (fun _ hk => hk) trivial (Below.refl _ _) (Nat.le_refl _) (by simp) ?_; (case hd => rfl); (case hg => rfl); (case hr => first | (go_simp; done) | (go_simp; rfl)); (case hp => exact (Reps.one (show Kd.M (Kd.int .i64) _ _ _ 1 [.int .i64 1] from rfl) (Reps.one (show Kd.M (Kd.int .i64) _ _ _ 4 [.int .i64 4] from rfl) (Reps.one (show Kd.M (Kd.int .i64) _ _ _ 6 [.int .i64 6] from rfl) (Reps.one (show Kd.M (Kd.int .i64) _ _ _ 12 [.int .i64 12] from rfl) (Reps.one (show Kd.M (Kd.int .i64) _ _ _ 16 [.int .i64 16] from rfl) (Reps.one (show Kd.M (Kd.int .i64) _ _ _ 24 [.int .i64 24] from rfl) (Reps.one (show Kd.M (Kd.int .i64) _ _ _ 36 [.int .i64 36] from rfl) (Reps.one (show Kd.M (Kd.int .i64) _ _ _ 1600 [.int .i64 1600] from rfl) (Reps.one (show Kd.M (Kd.int .i64) _ _ _ 1601 [.int .i64 1601] from rfl) (Reps.one (show Kd.M (Kd.int .i64) _ _ _ 0 [.int .i64 0] from rfl) (Reps.one (show Kd.M (Kd.int .i64) _ _ _ (-1) [.int .i64 (-1)] from rfl) (Reps.one (show Kd.M (Kd.int .i64) _ _ _ 4611686018427387904 [.int .i64 4611686018427387904] from rfl) (Reps.none _ _)))))))))))))); intro v248 w6 ho7 hb hg_ hnew_; clear hg_ hnew_; (first | rw [← Ny247.out] at ho7 | (simp only [Int.reduceToNat] at ho7; rw [← Ny247.out] at ho7)); have n0_ := Aside0.mk (Kd.R_lower ho7 (below_size (by repeat (first | (with_reducible first | exact HB.out | apply below_alloc | apply pw_below_drewN | apply below_drew1 | refine below_set ?_ (IsS81.ge HI243.out)) | exact HB.out)))); have n1_ := Aside0.mk (IsS81.below (by repeat (first | (with_reducible first | exact HI243.out | apply IsS81.alloc | apply IsS81.drewN | apply IsS81.drew | apply IsS81.set_1 | apply IsS81.set_2) | exact HI243.out)) hb); have n2_ := Aside0.mk (below_step (by repeat (first | (with_reducible first | exact HB.out | apply below_alloc | apply pw_below_drewN | apply below_drew1 | refine below_set ?_ (IsS81.ge HI243.out)) | exact HB.out)) hb); clear HI243; clear HB; have HO249 := n0_; have HI243 := n1_; have HB := n2_; clear n0_ n1_ n2_; clear hb ho7; obtain ⟨Ao8, co8, eo8⟩ := Kd.R_slice HO249.out; subst eo8) | ((with_reducible refine gate_callee (f := 99) rfl ?_); refine goesL_ (some 14) rfl rfl Try.func99 (by kernel_rfl) rfl #[.pointer (some ⟨gb243, 0, none⟩), .slice Ao8 y247.length co8] rfl (by (try simp only [List.map_toArray, List.map_cons, List.map_nil]); first | done | rfl | (simp only [List.length_drop, List.length_take]; rfl)) ?_; (with_reducible refine (spec_l1Cur_among.calls gb243 l0 t245 t246 _ _ y247 t250 t251 t252 w _ ?side1 ?side2 ?side3 ?side4 ?side5 A3.out).mono ?_); (case side1 => repeat (first | (with_reducible first | exact HI243.out | apply IsS81.alloc | apply IsS81.drewN | apply IsS81.drew | apply IsS81.set_1 | apply IsS81.set_2) | exact HI243.out)); (case side2 => repeat (first | (with_reducible first | exact HB.out | apply below_alloc | apply pw_below_drewN | apply below_drew1 | refine below_set ?_ (IsS81.ge HI243.out)) | exact HB.out)); (case side3 => repeat (first | exact (Kd.R_reads' HO249.out).2.2 | (with_reducible refine Kd.C_alloc ?_ _) | (with_reducible refine Kd.C_drewN ?_ _) | (with_reducible refine Kd.C_drew ?_))); (case side4 => exact (Kd.R_reads' HO249.out).2.1); (case side5 => exact far_slice (IsS81.own_ne HI243.out HO249.out (by decide))); rintro e w9 ⟨rfl, hi, hb, hk⟩; refine ⟨_, rfl, ?_⟩; have n0_ := Aside0.mk (Kd.R_mono (Kd.R_keep (IsS81.apart (show IsS81 w _ gb243 l0 t245 t246 from by repeat (first | (with_reducible first | exact HI243.out | apply IsS81.alloc | apply IsS81.drewN | apply IsS81.drew | apply IsS81.set_1 | apply IsS81.set_2) | exact HI243.out)) (by (with_reducible repeat (first | apply Kd.R_alloc | apply Kd.R_drewN | apply Kd.R_drew)); exact HO249.out) (by decide)) hk (fun _ h => h.2)) (fun _ h => h.1)); have n1_ := Aside0.mk (hb); have n2_ := Aside0.mk (hi); clear HO249; clear HB; clear HI243; have HO249 := n0_; have HB := n1_; have HI243 := n2_; clear n0_ n1_ n2_; (try clear hb); (try clear hb2); (try clear hk); (try clear hi)))
  go_ret2
  exact ⟨by first | rfl | (simp [errW_none, errW_some] <;> rfl) | (simp [*, errW_none, errW_some] <;> rfl), by repeat (first | (with_reducible first | exact HB.out | apply below_alloc | apply pw_below_drewN | apply below_drew1 | refine below_set ?_ (IsS81.ge HI243.out)) | exact HB.out)⟩

-- NOT PRINTED: function 104 (impl_PairsOfProduct_1)

end Go.Proofs.Ytlkbphhmahipdaa.P
namespace Go.Proofs.Ytlkbphhmahipdaa.P
open Go.RowKit Go.Proofs.YtlkbphhmahipdaaW.PrintWords Go.Proofs.YtlkbphhmahipdaaW.PrintLast Go.Proofs.YtlkbphhmahipdaaW.PrintMore
attribute [local go_sem] max2_int min2_int max_two min_two max_three min_three max_four min_four   -- for this text's walks alone
set_option linter.unusedVariables false
set_option linter.unusedSimpArgs false

/-! ### impl_PairsOfProduct: function 65, by hand -/
-- IMPORT Derived.Test.YtlkbphhmahipdaaTs
-- IMPORT Derived.BigQuiet
set_option maxHeartbeats 4000000 in
set_option maxRecDepth 100000 in
theorem impl_PairsOfProduct.clo (v : Int) (B : Nat) (p : Tk.PP) (W : World) (hinn : Tk.Inn 3 W 0 [p]) (hB : W.cell? ⟨B, 0, none⟩ = some (.int .i64 v)) :
    Calls Try.prog 104 #[Tk.cv p, .pointer (some ⟨B, 0, none⟩)] W fun e w' => e = .returned (.bool (decide (wrap64 (Tk.tv false [p.2.1, p.2.2]) = v))) ∧ Below W.heap.size W w' := by
  have hval := impl_value.calls (some ⟨p.1, 0, none⟩) 2 (Tk.vl p) (Tk.wh false) (wrap64 (Tk.tv false [p.2.1, p.2.2]))
  have htold := impl_value.wide false (Tk.vl p) rfl
  have hl2 : (Tk.vl p).length = 2 := rfl
  have HV : Aside0 (∀ m, Calls Try.prog 102 #[.slice (some ⟨p.1, 0, none⟩) 2 2, .string ⟨#[112]⟩] (W.drewN m) fun e w2 => e = .returned (.int .i64 (wrap64 (Tk.tv false [p.2.1, p.2.2]))) ∧ ∃ j, w2 = (W.drewN m).drewN j) := ⟨fun m => by
    have := hval (W.drewN m) (Kd.C_drewN (hinn.C p (by simp)) m) (by simp [Tk.vl]) htold
    rw [hl2] at this
    exact this.mono fun e w' h => ⟨h.1, h.2.out⟩⟩
  clear hval htold hl2 hinn
  generalize wrap64 (Tk.tv false [p.2.1, p.2.2]) = x at HV ⊢
  unfold Tk.cv
  go_enter Try.func104, Try.ntmps104
  go_wp2_with fail
  go_quiet (first | (go_at_call 102; exact Calls.quiet_of (HV.out _)))
  go_wp2
  go_ret
  exact ⟨by first | rfl | simp, ⟨rfl, rfl, rfl, Nat.le_refl _, fun _ _ => rfl⟩⟩
set_option maxHeartbeats 4000000 in
set_option maxRecDepth 100000 in
theorem impl_PairsOfProduct.has (n v : Int) (w : World) :
    Calls Try.prog 65 #[.int .i64 n, .int .i64 v] w fun e w' => ∃ v0_ : Value, e = .returned (.tuple #[v0_, .bool (decide ((2 ≤ n ∧ n ≤ 40) ∧ 0 ≤ v))]) ∧ ∃ ps : List Tk.PP, Tk.Has 36 3 w' w.heap.size w.heap.size v0_ ps ∧ Tk.vals ps = impl_PairsOfSum.rows false n v ∧ Below w.heap.size w w' := by
  have TM : Aside0 (∀ W, Calls Try.prog 74 #[.int .i64 n] W fun e w' => e = .returned (.bool (decide (2 ≤ n ∧ n ≤ 40))) ∧ ∃ nd, w' = W.drewN nd) := ⟨fun W => (impl_isMost.calls n _ W (impl_isMost.told n)).mono fun e w' h => ⟨h.1, h.2.out⟩⟩
  have hb1 : Below w.heap.size w (w.alloc (.cells #[.int .i64 v] 3)) := below_alloc (Below.refl _ _) _
  have HB1 := Aside0.mk hb1
  have hc1 : (w.alloc (.cells #[.int .i64 v] 3)).cell? ⟨w.heap.size, 0, none⟩ = some (.int .i64 v) := by simp
  have HC1 := Aside0.mk hc1
  clear hb1 hc1
  unfold impl_PairsOfSum.rows
  by_cases hm : 2 ≤ n ∧ n ≤ 40
  · rw [decide_eq_true hm] at TM
    by_cases hv : v < 0
    · have e1 : decide ((2 ≤ n ∧ n ≤ 40) ∧ 0 ≤ v) = false := decide_eq_false (by omega)
      rw [e1, if_neg (by omega)]
      clear e1 hm
      go_enter Try.func65, Try.ntmps65
      go_wp2_with (go_at_call 74; refine (TM.out _).mono ?_; rintro e w2 ⟨rfl, j2, rfl⟩)
      go_ret2
      exact ⟨_, rfl, [], Tk.Has.nil _ _ _, rfl, below_step HB1.out (pw_below_drewN (Below.refl _ _) _)⟩
    · have e1 : decide ((2 ≤ n ∧ n ≤ 40) ∧ 0 ≤ v) = true := decide_eq_true (by omega)
      rw [e1, if_pos (by omega)]
      obtain ⟨m, rfl⟩ := Int.eq_ofNat_of_zero_le (show 0 ≤ n by omega)
      have hmn : m ≤ 40 := by omega
      have eg : ∀ args w, (callFunc 104 args).run Try.prog w = .ok (.enter 104 args) w := enters_of Try.func104 (by kernel_rfl) rfl
      have TP : Aside0 (∀ B W, W.cell? ⟨B, 0, none⟩ = some (.int .i64 v) → Calls Try.prog 100 #[.int .i64 (m : Int), .func (.func 104) #[] #[.pointer (some ⟨B, 0, none⟩)]] W fun e w' => ∃ u, e = .returned u ∧ Aside0 (∃ ps : List Tk.PP, Tk.Has 36 3 w' W.heap.size W.heap.size u ps ∧ Tk.vals ps = (impl_left.pairs m).filter (fun x => decide (Tk.tv false x = v)) ∧ Below W.heap.size W w')) := ⟨fun B W hB => by
        have h := impl_pairsThat.any (fun a b => decide (wrap64 (Tk.tv false [a, b]) = v)) 104 #[.pointer (some ⟨B, 0, none⟩)] eg m (by omega) W (fun p W' hW' hp => impl_PairsOfProduct.clo v B p W' (fun q hq => by rw [List.mem_singleton.1 hq]; exact ⟨Nat.zero_le _, hp⟩) (pw_cell_below hW' hB))
        refine h.mono fun e w' he => ?_
        obtain ⟨u, rfl, ps, h1, h2, h3⟩ := he
        exact ⟨u, rfl, ⟨ps, h1, h2.trans (impl_PairsOfSum.val false m hmn v), h3⟩⟩⟩
      clear e1 hm eg
      rw [show (((m : Int)).toNat) = m from rfl]
      go_enter Try.func65, Try.ntmps65
      go_wp2_with (first
        | (go_at_call 74; refine (TM.out _).mono ?_; rintro e w2 ⟨rfl, j2, rfl⟩)
        | (go_at_call 100; refine (TP.out _ _ (pw_cell_below (pw_below_drewN (Below.refl _ _) j2) HC1.out)).mono ?_; rintro e w3 ⟨v3, rfl, h3⟩))
      go_ret2
      obtain ⟨ps, h4, h5, h6⟩ := h3.out
      have hz := (below_step HB1.out (pw_below_drewN (Below.refl _ _) j2)).size
      exact ⟨_, rfl, ps, h4.lower hz hz, h5, below_step (below_step HB1.out (pw_below_drewN (Below.refl _ _) j2)) h6⟩
  · rw [decide_eq_false hm] at TM
    have e1 : decide ((2 ≤ n ∧ n ≤ 40) ∧ 0 ≤ v) = false := decide_eq_false (by omega)
    rw [e1, if_neg (by omega)]
    clear e1 hm
    go_enter Try.func65, Try.ntmps65
    go_wp2_with (go_at_call 74; refine (TM.out _).mono ?_; rintro e w2 ⟨rfl, j2, rfl⟩)
    go_ret2
    exact ⟨_, rfl, [], Tk.Has.nil _ _ _, rfl, below_step HB1.out (pw_below_drewN (Below.refl _ _) _)⟩
def impl_PairsOfProduct.f (n v : Int) : Option (List (List Int) × Bool) := some (impl_PairsOfSum.rows false n v, decide ((2 ≤ n ∧ n ≤ 40) ∧ 0 ≤ v))
theorem impl_PairsOfProduct.calls (n v : Int) (r1 : List (List Int)) (r2 : Bool) (w : World) (h : impl_PairsOfProduct.f n v = some (r1, r2)) :
    Calls Try.prog 65 #[.int .i64 n, .int .i64 v] w fun e w' => ∃ v0_ : Value, e = .returned (.tuple #[v0_, .bool r2]) ∧ Kd.S (Kd.slice 3 (Kd.int .i64)) 36 w' w.heap.size (fun _ => True) v0_ r1 ∧ Below w.heap.size w w' := by
  unfold impl_PairsOfProduct.f at h
  obtain ⟨rfl, rfl⟩ := Prod.mk.inj (Option.some.inj h)
  exact (impl_PairsOfProduct.has n v w).mono fun e w' he => by
    obtain ⟨u, rfl, ps, h1, h2, h4⟩ := he
    have hS := h1.S (Nat.le_refl _) (Nat.le_refl _)
    rw [h2] at hS
    exact ⟨u, rfl, hS, h4⟩

end Go.Proofs.Ytlkbphhmahipdaa.P
namespace Go.Proofs.Ytlkbphhmahipdaa.P
open Go.RowKit Go.Proofs.YtlkbphhmahipdaaW.PrintWords Go.Proofs.YtlkbphhmahipdaaW.PrintLast Go.Proofs.YtlkbphhmahipdaaW.PrintMore
attribute [local go_sem] max2_int min2_int max_two min_two max_three min_three max_four min_four   -- for this text's walks alone
set_option linter.unusedVariables false
set_option linter.unusedSimpArgs false

/-! ### spec_PairsOfProduct: function 66, by hand -/
-- IMPORT Derived.Test.YtlkbphhmahipdaaTs
-- IMPORT Derived.BigQuiet
set_option maxHeartbeats 4000000 in
set_option maxRecDepth 100000 in
theorem spec_PairsOfProduct.has (n v : Int) (w : World) :
    Calls Try.prog 66 #[.int .i64 n, .int .i64 v] w fun e w' => ∃ v0_ : Value, e = .returned (.tuple #[v0_, .bool (decide ((2 ≤ n ∧ n ≤ 40) ∧ 0 ≤ v))]) ∧ ∃ ps : List Tk.PP, Tk.Has 36 3 w' w.heap.size w.heap.size v0_ ps ∧ Tk.vals ps = impl_PairsOfSum.rows false n v ∧ Below w.heap.size w w' := by
  have TM : Aside0 (∀ W, Calls Try.prog 93 #[.int .i64 n] W fun e w' => e = .returned (.bool (decide (2 ≤ n ∧ n ≤ 40))) ∧ ∃ nd, w' = W.drewN nd) := ⟨fun W => (spec_taLimit.calls n _ W (impl_PairsOfSum.lim n)).mono fun e w' h => ⟨h.1, h.2.out⟩⟩
  unfold impl_PairsOfSum.rows
  by_cases hm : 2 ≤ n ∧ n ≤ 40
  · rw [decide_eq_true hm] at TM
    by_cases hv : v < 0
    · have e1 : decide ((2 ≤ n ∧ n ≤ 40) ∧ 0 ≤ v) = false := decide_eq_false (by omega)
      rw [e1, if_neg (by omega)]
      clear e1 hm
      go_enter Try.func66, Try.ntmps66
      go_wp2_with (go_at_call 93; refine (TM.out _).mono ?_; rintro e w2 ⟨rfl, j2, rfl⟩)
      go_ret2
      exact ⟨_, rfl, [], Tk.Has.nil _ _ _, rfl, pw_below_drewN (Below.refl _ _) _⟩
    · have e1 : decide ((2 ≤ n ∧ n ≤ 40) ∧ 0 ≤ v) = true := decide_eq_true (by omega)
      rw [e1, if_pos (by omega)]
      obtain ⟨m, rfl⟩ := Int.eq_ofNat_of_zero_le (show 0 ≤ n by omega)
      have hmn : m ≤ 40 := by omega
      have TP : Aside0 (∀ W, Calls Try.prog 94 #[.int .i64 (m : Int)] W fun e w' => ∃ A c, ∃ ps : List Tk.PP, e = .returned (.slice A ps.length c) ∧ ps.length ≤ 2000 ∧ Aside0 (Tk.Has 36 3 w' W.heap.size W.heap.size (.slice A ps.length c) ps ∧ Tk.vals ps = impl_left.pairs m ∧ Tk.Ok ps ∧ Below W.heap.size W w')) := ⟨fun W => (spec_taPairs.has m hmn W).mono fun e w' he => by
        obtain ⟨u, rfl, ps, h1, h2, h3⟩ := he
        obtain ⟨A, c, rfl, _⟩ := h1.slice
        have hok := impl_left.ok_all _ m hmn ps h2
        exact ⟨A, c, ps, rfl, hok.1, ⟨h1, h2, hok, h3⟩⟩⟩
      have T103 : Aside0 (∀ (p : Tk.PP) W, ((1 ≤ p.2.1 ∧ p.2.1 ≤ 40) ∧ (1 ≤ p.2.2 ∧ p.2.2 ≤ 40)) → Tk.Inn 3 W 0 [p] → Calls Try.prog 103 #[.string ⟨#[112]⟩, .slice (some ⟨p.1, 0, none⟩) 2 2] W fun e w' => e = .returned (.int .i64 (Tk.tv false (Tk.vl p))) ∧ ∃ j, w' = W.drewN j) := ⟨fun p W hp hI => by
        have := spec_taTold.calls (Tk.wh false) (some ⟨p.1, 0, none⟩) 2 (Tk.vl p) (Tk.tv false (Tk.vl p)) W (hI.C p (by simp)) (by simp [Tk.vl]) (spec_taTold.told false p hp)
        have hl2 : (Tk.vl p).length = 2 := rfl
        rw [hl2] at this
        exact this.mono fun e w' h => ⟨h.1, h.2.out⟩⟩
      clear e1 hm hmn
      rw [show (((m : Int)).toNat) = m from rfl]
      go_enter Try.func66, Try.ntmps66
      go_wp2_with (first
        | (go_at_call 93; refine (TM.out _).mono ?_; rintro e w2 ⟨rfl, j2, rfl⟩)
        | (go_at_call 94; refine (TP.out _).mono ?_; rintro e w3 ⟨A, c, ps, rfl, hlen, h3⟩))
      have HB3 := Aside0.mk (below_step (pw_below_drewN (Below.refl w.heap.size w) j2) h3.out.2.2.2)
      have HS0 := Aside0.mk (show Tk.KP.R 36 w3 w3.heap.size (fun _ => True) (.slice none 0 0) [] from Kd.R_nil _ _ _ _ _)
      go_loopg [6, 19] ps.length (fun gg s6 s19 wr => ∃ (k : Nat) (qs : List Tk.PP), s19 = .int .i64 (k : Int) ∧ k ≤ ps.length ∧ ps.length - k ≤ gg ∧ Aside0 (qs = (ps.take k).filter (fun p => decide (Tk.tv false (Tk.vl p) = v)) ∧ Tk.KP.R 36 wr w3.heap.size (fun _ => True) s6 qs ∧ Below w3.heap.size w3 wr ∧ qs.length ≤ k))
      case atStart => exact ⟨0, [], rfl, Nat.zero_le _, by omega, ⟨by simp, HS0.out, Below.refl _ _, Nat.le_refl _⟩⟩
      case round =>
        obtain ⟨k, qs, rfl, hk, hgg, HQ⟩ := hrel
        clear HS0
        by_cases hi : k < ps.length
        · have hkz : (k : Int) < (ps.length : Int) := by omega
          have hH := h3.out.1.below HQ.out.2.2.1
          obtain ⟨g0, cap0, ev, hcell⟩ := hH.at_ k hi
          obtain ⟨rfl, rfl⟩ : A = some ⟨g0, 0, none⟩ ∧ c = cap0 := by injection ev with e1 e2 e3; exact ⟨e1, e3⟩
          have hpm : ps[k] ∈ ps := List.getElem_mem hi
          have HC2 := Aside0.mk (T103.out ps[k] wr (h3.out.2.2.1.2 _ hpm) (fun q hq => by rw [List.mem_singleton.1 hq]; exact ⟨Nat.zero_le _, (hH.inn _ hpm).2⟩))
          have HKY := Aside0.mk (show (Tk.tv false (Tk.vl ps[k]) = v → qs ++ [ps[k]] = (ps.take (k + 1)).filter (fun p => decide (Tk.tv false (Tk.vl p) = v))) ∧ (Tk.tv false (Tk.vl ps[k]) ≠ v → qs = (ps.take (k + 1)).filter (fun p => decide (Tk.tv false (Tk.vl p) = v))) from ⟨fun h => by rw [HQ.out.1, List.take_succ_eq_append_getElem hi, List.filter_append]; simp [h], fun h => by rw [HQ.out.1, List.take_succ_eq_append_getElem hi, List.filter_append]; simp [h]⟩)
          clear hpm hH ev
          generalize Tk.tv false (Tk.vl ps[k]) = y at HC2 HKY
          unfold Tk.cv at hcell
          by_cases hd : y = v
          · subst hd
            go_wp2_with (first
              | (go_at_call 103; refine HC2.out.mono ?_; rintro e w8 ⟨rfl, j8, rfl⟩; clear HC2)
              | ((with_reducible refine gate_builtin (b := .append) (xs := #[.tmp 27, .tmp 29]) rfl ?_); at_builtin; refine Kd.R_append Tk.KP (w0 := w3) w3.heap.size rfl (.tmp 27) (.tmp 29) 25 36 (.slice none 0 0) 24 rfl Try.underlying25 (by kernel_rfl) rfl (by decide) (by omega) u6 qs ps[k] [.slice (some ⟨ps[k].1, 0, none⟩) 2 2] (fun _ => True) (fun _ => False) rfl (by first | (go_simp; done) | (go_simp; rfl)) rfl (fun _ hk => hk.elim) (fun _ _ => trivial) (Kd.R_drewN HQ.out.2.1 _) (pw_below_drewN HQ.out.2.2.1 _) HQ.out.2.2.1.size (by have := HQ.out.2.2.2; omega) ?_; intro v9 w9 ho hb hg hat; have HO9 := Aside0.mk (show _ ∧ _ from ⟨ho, hb⟩); clear ho hb hg hat))
            go_roundg (ps.length - (k + 1))
            case measure => omega
            case rel => exact ⟨k + 1, qs ++ [ps[k]], by go_num, by omega, Nat.le_refl _, ⟨HKY.out.1 (by first | rfl | trivial), HO9.out.1, HO9.out.2, by rw [List.length_append, List.length_singleton]; have := HQ.out.2.2.2; omega⟩⟩
          · go_wp2_with (go_at_call 103; refine HC2.out.mono ?_; rintro e w8 ⟨rfl, j8, rfl⟩; clear HC2)
            go_roundg (ps.length - (k + 1))
            case measure => omega
            case rel => exact ⟨k + 1, qs, by go_num, by omega, Nat.le_refl _, ⟨HKY.out.2 hd, Kd.R_drewN HQ.out.2.1 _, pw_below_drewN HQ.out.2.2.1 _, by have := HQ.out.2.2.2; omega⟩⟩
        · have hkz : ¬ (k : Int) < (ps.length : Int) := by omega
          obtain rfl : k = ps.length := by omega
          go_wp2
          go_ret2
          obtain ⟨hq, hR, hb, _⟩ := HQ.out
          rw [List.take_length] at hq
          obtain ⟨hH, hv2, hok, hb3⟩ := h3.out
          have hin := hH.inn.below hb
          have hs : ∀ p ∈ qs, p ∈ ps := fun p hp => by rw [hq] at hp; exact (List.mem_filter.1 hp).1
          have hz : w.heap.size ≤ w3.heap.size := HB3.out.size
          refine ⟨_, rfl, qs, Tk.Has.lower (base := w3.heap.size) (lo := w.heap.size) ⟨Tk.row_of hR, fun p hp => ⟨?_, (hin p (hs p hp)).2⟩, ?_, fun p hp e => ?_⟩ hz (Nat.le_refl _), ?_, below_step HB3.out hb⟩
          · exact Nat.le_trans (below_step (Below.refl w.heap.size w) (pw_below_drewN (Below.refl _ _) j2)).size (hin p (hs p hp)).1
          · rw [hq]; exact hH.nod.sublist ((List.filter_sublist (l := ps)).map _)
          · have h1 := hH.inn.lt p (hs p hp)
            have h2 := Kd.R_base hR p.1 e
            omega
          · rw [hq, ← hv2]
            exact Tk.vals_filter ps (fun x => decide (Tk.tv false x = v))
  · rw [decide_eq_false hm] at TM
    have e1 : decide ((2 ≤ n ∧ n ≤ 40) ∧ 0 ≤ v) = false := decide_eq_false (by omega)
    rw [e1, if_neg (by omega)]
    clear e1 hm
    go_enter Try.func66, Try.ntmps66
    go_wp2_with (go_at_call 93; refine (TM.out _).mono ?_; rintro e w2 ⟨rfl, j2, rfl⟩)
    go_ret2
    exact ⟨_, rfl, [], Tk.Has.nil _ _ _, rfl, pw_below_drewN (Below.refl _ _) _⟩
def spec_PairsOfProduct.f (n v : Int) : Option (List (List Int) × Bool) := some (impl_PairsOfSum.rows false n v, decide ((2 ≤ n ∧ n ≤ 40) ∧ 0 ≤ v))
theorem spec_PairsOfProduct.calls (n v : Int) (r1 : List (List Int)) (r2 : Bool) (w : World) (h : spec_PairsOfProduct.f n v = some (r1, r2)) :
    Calls Try.prog 66 #[.int .i64 n, .int .i64 v] w fun e w' => ∃ v0_ : Value, e = .returned (.tuple #[v0_, .bool r2]) ∧ Kd.S (Kd.slice 3 (Kd.int .i64)) 36 w' w.heap.size (fun _ => True) v0_ r1 ∧ Below w.heap.size w w' := by
  unfold spec_PairsOfProduct.f at h
  obtain ⟨rfl, rfl⟩ := Prod.mk.inj (Option.some.inj h)
  exact (spec_PairsOfProduct.has n v w).mono fun e w' he => by
    obtain ⟨u, rfl, ps, h1, h2, h4⟩ := he
    have hS := h1.S (Nat.le_refl _) (Nat.le_refl _)
    rw [h2] at hS
    exact ⟨u, rfl, hS, h4⟩

end Go.Proofs.Ytlkbphhmahipdaa.P
namespace Go.Proofs.Ytlkbphhmahipdaa.P
open Go.RowKit Go.Proofs.YtlkbphhmahipdaaW.PrintWords Go.Proofs.YtlkbphhmahipdaaW.PrintLast Go.Proofs.YtlkbphhmahipdaaW.PrintMore
attribute [local go_sem] max2_int min2_int max_two min_two max_three min_three max_four min_four   -- for this text's walks alone
set_option linter.unusedVariables false
set_option linter.unusedSimpArgs false

/-! ### spec_DrawIsTalk: function 67 -/
def spec_DrawIsTalk.f (k : Nat) (l0 : List Int) : Option (ByteArray) := (spec_l1Cur_talk.f k l0 0 0).bind fun bt254 => (some bt254.1)
theorem spec_DrawIsTalk.mono : ∀ a0 k, LeO (spec_DrawIsTalk.f k a0) (spec_DrawIsTalk.f (k + 1) a0) := by
  intro a0 k
  unfold spec_DrawIsTalk.f
  repeat' first
      | (with_reducible exact spec_l1Cur_talk.mono _ _ _ _)
      | (with_reducible exact LeO.refl _)
      | (with_reducible exact LeO.none _)
      | (with_reducible refine LeO.ite ?_ ?_)
      | (with_reducible refine LeO.bind ?_ (fun _ => ?_))
      | exact spec_l1Cur_talk.mono _ _ _ _
      | exact LeO.none _
      | refine LeO.ite ?_ ?_
      | refine LeO.bind ?_ (fun _ => ?_)
set_option maxHeartbeats 8000000 in
set_option maxRecDepth 100000 in
theorem spec_DrawIsTalk.calls (k : Nat) (A0 : Option Addr) (c0 : Nat) (l0 : List Int) (r : ByteArray) (w : World) (hr0 : Kd.C (Kd.int .u8) w A0 l0.length l0) (hc0 : l0.length ≤ c0) (h : spec_DrawIsTalk.f k l0 = some r) :
    Calls Try.prog 67 #[.slice A0 l0.length c0] w fun e w' => e = .returned (.string r) ∧ Below w.heap.size w w' := by
  have hu81 := Try.underlying81
  have HR0 := Aside0.mk hr0
  have HC0 := Aside0.mk hc0
  clear hr0 hc0
  have HB := Aside0.mk (Below.refl w.heap.size w)
  have H : ((spec_l1Cur_talk.f k l0 0 0).bind fun bt254 => (some bt254.1)) = some r := h
  clear h
  replace H := Option.bind_eq_some_iff.mp H
  obtain ⟨⟨t254, t255, t256⟩, A20, H⟩ := H
  replace H : (some t254) = some r := H
  have A2 := Aside0.mk A20
  clear A20
  obtain rfl := Option.some.inj H
  go_enter Try.func67, Try.ntmps67
  go_wp2_with (first | ((with_reducible refine gate_dst (N := 6) rfl ?_); refine box_event ?hg (N := 6) ?hd (cs := #[.slice A0 l0.length c0, .int .i64 0, .int .u64 0]) (t := 81) ?hr ?_; (case hd => rfl); (case hg => rfl); (case hr => first | (go_simp; done) | (go_simp; rfl)); intro gb253 hg w3 hbox hb; have n0_ := Aside0.mk (below_step (by repeat (first | (with_reducible first | exact HB.out | apply below_alloc | apply pw_below_drewN | apply below_drew1) | exact HB.out)) hb); have n1_ := Aside0.mk ((by rw [hg]; exact (below_size (by repeat (first | (with_reducible first | exact HB.out | apply below_alloc | apply pw_below_drewN | apply below_drew1) | exact HB.out))) : w.heap.size ≤ gb253)); have n2_ := Aside0.mk ((by rw [hg]; exact (below_size (by repeat (first | (with_reducible first | exact HB.out | apply below_alloc | apply pw_below_drewN | apply below_drew1) | exact HB.out))) : w.heap.size ≤ gb253)); have n3_ := Aside0.mk ((⟨_, _, hbox, (by rw [hg]; exact (below_size (by repeat (first | (with_reducible first | exact HB.out | apply below_alloc | apply pw_below_drewN | apply below_drew1) | exact HB.out))) : w.heap.size ≤ gb253), HR0.out⟩ : IsS81 w w3 gb253 l0 0 0)); clear HB; have HB := n0_; have GW253 := n1_; have GE253 := n2_; have HI253 := n3_; clear n0_ n1_ n2_ n3_; clear hb hbox hg) | ((with_reducible refine gate_callee (f := 97) rfl ?_); refine goesL_ (some 8) rfl rfl Try.func97 (by kernel_rfl) rfl #[.pointer (some ⟨gb253, 0, none⟩)] rfl (by (try simp only [List.map_toArray, List.map_cons, List.map_nil]); first | done | rfl | (simp only [List.length_drop, List.length_take]; rfl)) ?_; (with_reducible refine (spec_l1Cur_talk.calls k gb253 l0 0 0 t254 t255 t256 w _ ?side1 ?side2 A2.out).mono ?_); (case side1 => repeat (first | (with_reducible first | exact HI253.out | apply IsS81.alloc | apply IsS81.drewN | apply IsS81.drew | apply IsS81.set_1 | apply IsS81.set_2) | exact HI253.out)); (case side2 => repeat (first | (with_reducible first | exact HB.out | apply below_alloc | apply pw_below_drewN | apply below_drew1 | refine below_set ?_ (IsS81.ge HI253.out)) | exact HB.out)); rintro e w4 ⟨rfl, hi, hb, hk⟩; refine ⟨_, rfl, ?_⟩; have n0_ := Aside0.mk (hb); have n1_ := Aside0.mk (hi); clear HB; clear HI253; have HB := n0_; have HI253 := n1_; clear n0_ n1_; (try clear hb); (try clear hb2); (try clear hk); (try clear hi)))
  go_ret
  exact ⟨by first | rfl | (simp [errW_none, errW_some] <;> rfl) | (simp [*, errW_none, errW_some] <;> rfl), by repeat (first | (with_reducible first | exact HB.out | apply below_alloc | apply pw_below_drewN | apply below_drew1 | refine below_set ?_ (IsS81.ge HI253.out)) | exact HB.out)⟩

/-! ### spec_IsTalk: function 68 -/
def spec_IsTalk.f (k : Nat) (a0 : ByteArray) : Option (Bool) := (spec_taTalk.f k a0).bind fun t257 => (some t257)
theorem spec_IsTalk.mono : ∀ a0 k, LeO (spec_IsTalk.f k a0) (spec_IsTalk.f (k + 1) a0) := by
  intro a0 k
  unfold spec_IsTalk.f
  repeat' first
      | (with_reducible exact spec_taTalk.mono _ _)
      | (with_reducible exact LeO.refl _)
      | (with_reducible exact LeO.none _)
      | (with_reducible refine LeO.ite ?_ ?_)
      | (with_reducible refine LeO.bind ?_ (fun _ => ?_))
      | exact spec_taTalk.mono _ _
      | exact LeO.none _
      | refine LeO.ite ?_ ?_
      | refine LeO.bind ?_ (fun _ => ?_)
set_option maxHeartbeats 8000000 in
set_option maxRecDepth 100000 in
theorem spec_IsTalk.calls (k : Nat) (a0 : ByteArray) (r : Bool) (w : World) (h : spec_IsTalk.f k a0 = some r) :
    Calls Try.prog 68 #[.string a0] w fun e w' => e = .returned (.bool r) ∧ Drawn0 w w' := by
  have H : ((spec_taTalk.f k a0).bind fun t257 => (some t257)) = some r := h
  clear h
  replace H := Option.bind_eq_some_iff.mp H
  obtain ⟨t257, A20, H⟩ := H
  replace H : (some t257) = some r := H
  have A2 := Aside0.mk A20
  clear A20
  obtain rfl := Option.some.inj H
  go_enter Try.func68, Try.ntmps68
  go_wp2_with (first | ((with_reducible refine gate_callee (f := 70) rfl ?_); refine goesL_ (some 4) rfl rfl Try.func70 (by kernel_rfl) rfl #[.string a0] rfl (by (try simp only [List.map_toArray, List.map_cons, List.map_nil]); first | done | rfl | (simp only [List.length_drop, List.length_take]; rfl)) ?_; (with_reducible refine (spec_taTalk.calls k a0 t257 _ A2.out).mono ?_); rintro e w' ⟨rfl, ⟨nd, rfl⟩⟩; refine ⟨_, rfl, ?_⟩))
  go_ret
  exact ⟨by first | rfl | (simp; done) | (simp [*]; done), by repeat (first | exact Drawn0.refl _ | apply Drawn0.step)⟩

end Go.Proofs.Ytlkbphhmahipdaa.P
