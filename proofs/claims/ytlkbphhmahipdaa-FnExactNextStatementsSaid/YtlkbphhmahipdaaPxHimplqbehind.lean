/- Calls of the functions of the given program return what the plain Lean functions of the same names return; and a row of a law out of its pure statement. Written by a program of this session out of the translation; Lean checks it. No condition. -/
import Derived.Test.YtlkbphhmahipdaaPx0
import Derived.Test.YtlkbphhmahipdaaPx10
import Derived.Test.YtlkbphhmahipdaaPxHimplqcounted
import Derived.Test.YtlkbphhmahipdaaPxHslicesqDeleteFuncqintqint
import Derived.Test.YtlkbphhmahipdaaTk
import Derived.Test.YtlkbphhmahipdaaMp
import Derived.Test.YtlkbphhmahipdaaShl
import Derived.BigQuiet
namespace Go.Proofs.Ytlkbphhmahipdaa.P
open Go.RowKit Go.Proofs.YtlkbphhmahipdaaW.PrintWords Go.Proofs.YtlkbphhmahipdaaW.PrintLast Go.Proofs.YtlkbphhmahipdaaW.PrintMore
attribute [local go_sem] max2_int min2_int max_two min_two max_three min_three max_four min_four   -- for this text's walks alone
set_option linter.unusedVariables false
set_option linter.unusedSimpArgs false

/-! ### impl_behind: function 78, by hand -/
-- IMPORT Derived.Test.YtlkbphhmahipdaaTk
-- IMPORT Derived.Test.YtlkbphhmahipdaaMp
-- IMPORT Derived.Test.YtlkbphhmahipdaaShl
-- IMPORT Derived.BigQuiet
set_option maxHeartbeats 4000000 in
set_option maxRecDepth 100000 in
theorem impl_behind.clo1 (s : Bool) (what : Int) (f : Int → Int) (M n lo B7 B4 B5 : Nat) (p : Tk.PP) (W : World) (hbd : (1 ≤ p.2.1 ∧ p.2.1 ≤ 40) ∧ (1 ≤ p.2.2 ∧ p.2.2 ≤ 40)) (hinn : Tk.Inn 3 W lo [p])
    (h7 : W.cell? ⟨B7, 0, none⟩ = some (.map (some M))) (h4 : W.cell? ⟨B4, 0, none⟩ = some (.string (Tk.wh s))) (h5 : W.cell? ⟨B5, 0, none⟩ = some (.int .u8 what)) (hM : Mp.MapI Try.prog 3 3 W M n f) :
    Calls Try.prog 113 #[Tk.cv p, .pointer (some ⟨B7, 0, none⟩), .pointer (some ⟨B4, 0, none⟩), .pointer (some ⟨B5, 0, none⟩)] W fun e w' => e = .returned (.bool (decide (f (Tk.tv s (Tk.vl p)) = 1) != decide (what = 43))) ∧ Below W.heap.size W w' := by
  have hval := impl_value.calls (some ⟨p.1, 0, none⟩) 2 (Tk.vl p) (Tk.wh s) (Tk.tv s (Tk.vl p))
  have htold := impl_value.told s p hbd
  have htv := Tk.tv_bd s p hbd
  have hx := Tk.wf64 (Tk.tv s (Tk.vl p)) (by omega)
  have hl2 : (Tk.vl p).length = 2 := rfl
  have HV : Aside0 (∀ m, Calls Try.prog 102 #[.slice (some ⟨p.1, 0, none⟩) 2 2, .string (Tk.wh s)] (W.drewN m) fun e w2 => e = .returned (.int .i64 (Tk.tv s (Tk.vl p))) ∧ ∃ j, w2 = (W.drewN m).drewN j) := ⟨fun m => by
    have := hval (W.drewN m) (Kd.C_drewN (hinn.C p (by simp)) m) (by simp [Tk.vl]) htold
    rw [hl2] at this
    exact this.mono fun e w' h => ⟨h.1, h.2.out⟩⟩
  have hlk : ∀ m, (Instr.lookup 100 (.map (some M)) (.int .i64 (Tk.tv s (Tk.vl p))) false).run Try.prog (W.drewN m) = .ok (.int .i64 (f (Tk.tv s (Tk.vl p)))) (W.drewN m) := fun m => (hM.below (pw_below_drewN (Below.refl _ _) m)).look (t := 100) Try.underlying3 Try.underlying3 Try.underlying100 (fun w => by kernel_rfl) _ hx
  clear hM hinn hval htold htv hx hl2 hbd
  generalize f (Tk.tv s (Tk.vl p)) = d at hlk ⊢
  generalize Tk.tv s (Tk.vl p) = x at HV hlk
  generalize Tk.wh s = wo at HV h4
  unfold Tk.cv
  go_enter Try.func113, Try.ntmps113
  go_wp2_with fail
  go_quiet (first | (go_at_call 102; exact Calls.quiet_of (HV.out _)))
  go_wp2
  go_ret
  refine ⟨?_, ⟨rfl, rfl, rfl, Nat.le_refl _, fun _ _ => rfl⟩⟩
  have e1 : (d == 1) = decide (d = 1) := rfl
  have e2 : (what == 43) = decide (what = 43) := rfl
  simp only [e1, e2, Ending.returned.injEq]
  cases decide (d = 1) <;> cases decide (what = 43) <;> rfl
set_option maxHeartbeats 4000000 in
set_option maxRecDepth 100000 in
theorem impl_behind.clo2 (s : Bool) (f : Int → Bool) (M n lo B7 B4 : Nat) (p : Tk.PP) (W : World) (hbd : (1 ≤ p.2.1 ∧ p.2.1 ≤ 40) ∧ (1 ≤ p.2.2 ∧ p.2.2 ≤ 40)) (hinn : Tk.Inn 3 W lo [p])
    (h7 : W.cell? ⟨B7, 0, none⟩ = some (.map (some M))) (h4 : W.cell? ⟨B4, 0, none⟩ = some (.string (Tk.wh s))) (hM : Mp.MapB Try.prog 3 4 W M n f) :
    Calls Try.prog 114 #[Tk.cv p, .pointer (some ⟨B7, 0, none⟩), .pointer (some ⟨B4, 0, none⟩)] W fun e w' => e = .returned (.bool (f (Tk.tv s (Tk.vl p)))) ∧ Below W.heap.size W w' := by
  have hval := impl_value.calls (some ⟨p.1, 0, none⟩) 2 (Tk.vl p) (Tk.wh s) (Tk.tv s (Tk.vl p))
  have htold := impl_value.told s p hbd
  have htv := Tk.tv_bd s p hbd
  have hx := Tk.wf64 (Tk.tv s (Tk.vl p)) (by omega)
  have hl2 : (Tk.vl p).length = 2 := rfl
  have HV : Aside0 (∀ m, Calls Try.prog 102 #[.slice (some ⟨p.1, 0, none⟩) 2 2, .string (Tk.wh s)] (W.drewN m) fun e w2 => e = .returned (.int .i64 (Tk.tv s (Tk.vl p))) ∧ ∃ j, w2 = (W.drewN m).drewN j) := ⟨fun m => by
    have := hval (W.drewN m) (Kd.C_drewN (hinn.C p (by simp)) m) (by simp [Tk.vl]) htold
    rw [hl2] at this
    exact this.mono fun e w' h => ⟨h.1, h.2.out⟩⟩
  have hlk : ∀ m, (Instr.lookup 104 (.map (some M)) (.int .i64 (Tk.tv s (Tk.vl p))) false).run Try.prog (W.drewN m) = .ok (.bool (f (Tk.tv s (Tk.vl p)))) (W.drewN m) := fun m => (hM.below (pw_below_drewN (Below.refl _ _) m)).look (t := 104) Try.underlying3 Try.underlying4 Try.underlying104 (fun w => by kernel_rfl) _ hx
  clear hM hinn hval htold htv hx hl2 hbd
  generalize f (Tk.tv s (Tk.vl p)) = d at hlk ⊢
  generalize Tk.tv s (Tk.vl p) = x at HV hlk
  generalize Tk.wh s = wo at HV h4
  unfold Tk.cv
  go_enter Try.func114, Try.ntmps114
  go_wp2_with fail
  go_quiet (first | (go_at_call 102; exact Calls.quiet_of (HV.out _)))
  go_wp2
  go_ret
  exact ⟨by first | rfl | simp, ⟨rfl, rfl, rfl, Nat.le_refl _, fun _ _ => rfl⟩⟩
set_option maxHeartbeats 1000000 in
/-- slices.Clone of a row of pairs: a new row, the same pairs. -/
theorem slices_Clone_PP.has (base lo : Nat) (v : Value) (ps : List Tk.PP) (w : World) (hH : Tk.Has 36 3 w base lo v ps) (hn : ps.length ≤ 2000) :
    Calls Try.prog 112 #[v] w fun e w' => ∃ v', e = .returned v' ∧ Tk.Has 36 3 w' w.heap.size lo v' ps ∧ Below w.heap.size w w' := by
  rcases Tk.own_formP hH.row with ⟨rfl, rfl⟩ | ⟨g, cap, rfl, _, _⟩
  · refine (Try.slices_Clone_nil 0 0 w).mono ?_
    rintro e w' ⟨rfl, rfl⟩
    exact ⟨_, rfl, Tk.Has.nil _ _ _, Below.refl _ _⟩
  · have hinfo : (Try.prog.info? 36).map (fun i => (i.zero, i.size, i.bytes)) = some (some (.slice none 0 0), 1, 24) := by kernel_rfl
    obtain ⟨i0, hi, hz0, hz1, hz2⟩ := info_parts hinfo
    have hcall := Try.slices_Clone i0 (.slice none 0 0) 1 24 hi hz0 hz1 hz2 (by kernel_rfl) (by decide) (fun w => by kernel_rfl) g 0 ps.length cap (ps.map Tk.cv) w (by simp) (by unfold maxLen; omega) (by omega)
    refine (hcall ?_ ?_).mono ?_
    · intro j u hu
      rw [Nat.zero_add]
      obtain ⟨hl, rfl⟩ := List.getElem?_eq_some_iff.1 hu
      rw [List.getElem_map]
      exact (Tk.own_atP hH.row j (by simpa using hl)).1
    · intro u hu
      obtain ⟨p, _, rfl⟩ := List.mem_map.1 hu
      rfl
    · rintro e w' ⟨v', rfl, hown, _, hb⟩
      refine ⟨v', rfl, ⟨hown, hH.inn.below hb, hH.nod, fun p hp e => ?_⟩, hb⟩
      have h1 := hH.inn.lt p hp
      rcases hown.2 with ⟨rfl, _⟩ | ⟨g', cap', cur, rfl, h2, _⟩
      · simp [Value.ownBlock] at e
      · simp [Value.ownBlock] at e
        omega
theorem slices_DeleteFunc_PP.has (q : Tk.PP → Bool) (g : Nat) (lb : Array Value) (eg : ∀ args w, (callFunc g args).run Try.prog w = .ok (.enter g args) w) (base lo : Nat) (v : Value) (ps : List Tk.PP) (w : World) (hH : Tk.Has 36 3 w base lo v ps)
    (hp : ∀ x, x ∈ ps → ∀ W, w.grownBy W v.ownBlock → Calls Try.prog g (#[Tk.cv x] ++ lb) W fun e w' => e = .returned (.bool (q x)) ∧ Below W.heap.size W w') :
    Calls Try.prog 111 #[v, .func (.func g) #[] lb] w fun e w' => ∃ v', e = .returned v' ∧ Tk.Has 36 3 w' base lo v' (ps.filter fun x => !q x) ∧ w.grownBy w' v.ownBlock := by
  rcases Tk.own_formP hH.row with ⟨rfl, rfl⟩ | ⟨gb, cap, rfl, _, _⟩
  · refine (slices_DeleteFunc_PP.row q g lb eg base _ [] w hH.row hp).mono ?_
    rintro e w' ⟨v', rfl, hown, hg⟩
    exact ⟨v', rfl, ⟨hown, (fun p hp => by cases hp), by simp, (fun p hp => by cases hp)⟩, hg⟩
  · refine (slices_DeleteFunc_PP.any q g lb eg base gb cap ps w hH.row hp).mono ?_
    rintro e w' ⟨rfl, hown, hg⟩
    have hs : ∀ p ∈ ps.filter (fun x => !q x), p ∈ ps := fun p hp => (List.mem_filter.1 hp).1
    refine ⟨_, rfl, ⟨hown, fun p hp => ?_, hH.nod.sublist ((List.filter_sublist (l := ps)).map _), fun p hp => hH.ap p (hs p hp)⟩, hg⟩
    have h1 := hH.inn p (hs p hp)
    exact ⟨h1.1, (hg.block _ (hH.inn.lt p (hs p hp)) (fun e => hH.ap p (hs p hp) e.symm)).trans h1.2⟩
/-- The pairs of which the statement is true. -/
def impl_behind.sel (s : Bool) (what : Int) (ps : List Tk.PP) : List Tk.PP := ps.filter fun p => Tk.keepSay s what (Tk.vals ps) (Tk.vl p)
set_option maxHeartbeats 8000000 in
set_option maxRecDepth 100000 in
theorem impl_behind.has (s : Bool) (what : Int) (base lo : Nat) (v : Value) (ps : List Tk.PP) (w : World) (hH : Tk.Has 36 3 w base lo v ps) (hok : Tk.Ok ps) (hwhat : what ≠ 33) :
    Calls Try.prog 78 #[v, .string (Tk.wh s), .int .u8 what] w fun e w' => ∃ v', e = .returned v' ∧ Tk.Has 36 3 w' w.heap.size lo v' (impl_behind.sel s what ps) ∧ Below w.heap.size w w' := by
  obtain ⟨A, c, rfl, hc, hmax⟩ := hH.slice
  have hn := hok.1
  have T110 : Aside0 (∀ s' W, Below w.heap.size w W → Calls Try.prog 110 #[.slice A ps.length c, .string (Tk.wh s')] W fun e w' => ∃ M, e = .returned (.map (some M)) ∧ Aside0 (Mp.MapI Try.prog 3 3 w' M ps.length (fun y => (Tk.cnt s' (Tk.vals ps) y : Int)) ∧ Below W.heap.size W w')) := ⟨fun s' W hW =>
    (impl_counted.has s' base lo A c ps W (hH.below hW) hok).mono fun e w' ⟨M, h1, h2, _, h3⟩ => ⟨M, h1, ⟨h2, h3⟩⟩⟩
  have T112 : Aside0 (∀ W, Below w.heap.size w W → Calls Try.prog 112 #[.slice A ps.length c] W fun e w' => ∃ A' c', e = .returned (.slice A' ps.length c') ∧ Aside0 (Tk.Has 36 3 w' W.heap.size lo (.slice A' ps.length c') ps ∧ Below W.heap.size W w')) := ⟨fun W hW =>
    (slices_Clone_PP.has base lo _ ps W (hH.below hW) hn).mono fun e w' ⟨v', h1, h2, h3⟩ => by
      obtain ⟨A', c', rfl, _, _⟩ := h2.slice
      exact ⟨A', c', h1, ⟨h2, h3⟩⟩⟩
  have eg1 : ∀ args w, (callFunc 113 args).run Try.prog w = .ok (.enter 113 args) w := enters_of Try.func113 (by kernel_rfl) rfl
  have T111 : Aside0 (∀ M B7 B4 B5 W4 W5 A' c', Mp.MapI Try.prog 3 3 W4 M ps.length (fun y => (Tk.cnt s (Tk.vals ps) y : Int)) → W4.cell? ⟨B7, 0, none⟩ = some (.map (some M)) → W4.cell? ⟨B4, 0, none⟩ = some (.string (Tk.wh s)) → W4.cell? ⟨B5, 0, none⟩ = some (.int .u8 what) → Tk.Has 36 3 W5 W4.heap.size lo (.slice A' ps.length c') ps → Below W4.heap.size W4 W5 →
      Calls Try.prog 111 #[.slice A' ps.length c', .func (.func 113) #[] #[.pointer (some ⟨B7, 0, none⟩), .pointer (some ⟨B4, 0, none⟩), .pointer (some ⟨B5, 0, none⟩)]] W5 fun e w' => ∃ v'', e = .returned v'' ∧ Aside0 (Tk.Has 36 3 w' W4.heap.size lo v'' (impl_behind.sel s what ps) ∧ Below W4.heap.size W4 w')) := ⟨fun M B7 B4 B5 W4 W5 A' c' hM h7 h4 h5 hH5 hb => by
    have keep : ∀ W, W5.grownBy W (Value.slice A' ps.length c').ownBlock → ∀ k, k < W4.heap.size → W.heap[k]? = W4.heap[k]? := fun W hg k hk =>
      (hg.block k (Nat.lt_of_lt_of_le hk hb.size) (fun e => by have := (hH5.lt k e.symm).1; omega)).trans (hb.block k hk)
    have belowW : ∀ W, W5.grownBy W (Value.slice A' ps.length c').ownBlock → Below W4.heap.size W4 W := fun W hg => ⟨hg.os.trans hb.os, hg.tape.trans hb.tape, hg.output.trans hb.output, Nat.le_trans hb.size hg.size, keep W hg⟩
    refine (slices_DeleteFunc_PP.has (fun p => decide ((Tk.cnt s (Tk.vals ps) (Tk.tv s (Tk.vl p)) : Int) = 1) != decide (what = 43)) _ _ eg1 W4.heap.size lo _ ps W5 hH5 (fun x hx W hg => ?_)).mono ?_
    · exact impl_behind.clo1 s what (fun y => (Tk.cnt s (Tk.vals ps) y : Int)) M ps.length lo B7 B4 B5 x W (hok.2 x hx) (fun p hp => by
        rw [List.mem_singleton.1 hp]
        exact ⟨(hH5.inn x hx).1, (hg.block _ (hH5.inn.lt x hx) (fun e => hH5.ap x hx e.symm)).trans (hH5.inn x hx).2⟩) (pw_cell_below (belowW W hg) h7) (pw_cell_below (belowW W hg) h4) (pw_cell_below (belowW W hg) h5) (hM.below (belowW W hg))
    · rintro e w' ⟨v'', rfl, h1, hg⟩
      refine ⟨v'', rfl, ⟨?_, belowW w' hg⟩⟩
      have e1 : (fun p => !(decide ((Tk.cnt s (Tk.vals ps) (Tk.tv s (Tk.vl p)) : Int) = 1) != decide (what = 43))) = fun p => Tk.keepSay s what (Tk.vals ps) (Tk.vl p) := by
        funext p
        unfold Tk.keepSay
        rw [if_neg hwhat]
        have : decide ((Tk.cnt s (Tk.vals ps) (Tk.tv s (Tk.vl p)) : Int) = 1) = decide (Tk.cnt s (Tk.vals ps) (Tk.tv s (Tk.vl p)) = 1) := by
          rw [decide_eq_decide]; omega
        rw [this]
        cases decide (Tk.cnt s (Tk.vals ps) (Tk.tv s (Tk.vl p)) = 1) <;> cases decide (what = 43) <;> rfl
      rw [e1] at h1
      exact h1⟩
  clear hH hok eg1
  have T110s := Aside0.mk (T110.out s)
  clear T110
  generalize Tk.wh s = wo at T110s T111
  go_enter Try.func78, Try.ntmps78
  have hb2 : Below w.heap.size w ((w.alloc (.cells #[.string wo] 9)).alloc (.cells #[.int .u8 what] 5)) := below_alloc (below_alloc (Below.refl _ _) _) _
  have HB2 := Aside0.mk hb2
  have HC4 := Aside0.mk (show ((w.alloc (.cells #[.string wo] 9)).alloc (.cells #[.int .u8 what] 5)).cell? ⟨w.heap.size, 0, none⟩ = some (.string wo) ∧ ((w.alloc (.cells #[.string wo] 9)).alloc (.cells #[.int .u8 what] 5)).cell? ⟨w.heap.size + 1, 0, none⟩ = some (.int .u8 what) from ⟨by simp, by simp⟩)
  clear hb2
  go_wp2_with (first
    | (go_at_call 110; refine (T110s.out _ HB2.out).mono ?_; rintro e w3 ⟨M, rfl, r3⟩;
       obtain ⟨W4, hW4⟩ : ∃ W4, W4 = w3.alloc (.cells #[.map (some M)] 100) := ⟨_, rfl⟩;
       have hb4 : Below w3.heap.size w3 W4 := (by rw [hW4]; exact (Below.refl _ _).alloc (Nat.le_refl _) _);
       have h4 : (w3.alloc (.cells #[.map (some M)] 100)).cell? ⟨w.heap.size, 0, none⟩ = some (.string wo) := (by rw [← hW4]; exact pw_cell_below hb4 (pw_cell_below r3.out.2 HC4.out.1));
       have h5 : (w3.alloc (.cells #[.map (some M)] 100)).cell? ⟨w.heap.size + 1, 0, none⟩ = some (.int .u8 what) := (by rw [← hW4]; exact pw_cell_below hb4 (pw_cell_below r3.out.2 HC4.out.2));
       have R4 := Aside0.mk (show Below w.heap.size w (w3.alloc (.cells #[.map (some M)] 100)) ∧ Mp.MapI Try.prog 3 3 (w3.alloc (.cells #[.map (some M)] 100)) M ps.length (fun y => (Tk.cnt s (Tk.vals ps) y : Int)) ∧ (w3.alloc (.cells #[.map (some M)] 100)).cell? ⟨w3.heap.size, 0, none⟩ = some (.map (some M)) from (by rw [← hW4]; exact ⟨below_step (below_step HB2.out r3.out.2) hb4, r3.out.1.below hb4, (by rw [hW4]; simp)⟩));
       clear hb4 hW4 r3)
    | (go_at_call 112; refine (T112.out _ R4.out.1).mono ?_; rintro e w5 ⟨A', c', rfl, r5⟩)
    | (go_at_call 111; refine (T111.out _ _ _ _ _ _ _ _ R4.out.2.1 R4.out.2.2 h4 h5 r5.out.1 r5.out.2).mono ?_; rintro e w6 ⟨v6, rfl, r6⟩))
  go_ret
  exact ⟨_, rfl, r6.out.1.lower R4.out.1.size (Nat.le_refl _), below_step R4.out.1 r6.out.2⟩
section
variable {P : Program} {ops : Array Oper} {o : Oper} {a : Act} {Q : Exit → Act → World → Prop} {Kc : Act → World → Prop} {w w' : World}
theorem impl_behind.upd_step (hw : Region.wanted o (yielded ops a.tmps) = true) (m x v : Operand) (t : TypeId) (hop : o.op = Op.mapUpdate t m x v) (M X V : Value) (hm : a.eval m = M) (hx : a.eval x = X) (hv : a.eval v = V)
    (hrun : (Instr.mapUpdate t M X V).run P w = .ok () w') (h : Kc (a.put o.dst undef) w') : if Region.wanted o (yielded ops a.tmps) = true then Oper.wp P o a w Kc Q else Kc (a.put o.dst undef) w := by
  rw [if_pos hw]
  unfold Oper.wp
  simp [execOp, hop, hm, hx, hv, hrun, Result.andThen]
  exact h
end
theorem impl_behind.might_step (s : Bool) (ps : List Tk.PP) (k : Nat) (hk : k < ps.length) : (Tk.cnt (!s) (Tk.vals ps) (Tk.tv (!s) (Tk.vl ps[k])) = 1 → (fun y => if y = Tk.tv s (Tk.vl ps[k]) then true else Tk.might s (Tk.vals ps) (Tk.vals (ps.take k)) y) = fun y => Tk.might s (Tk.vals ps) (Tk.vals (ps.take (k + 1))) y) ∧
    (Tk.cnt (!s) (Tk.vals ps) (Tk.tv (!s) (Tk.vl ps[k])) ≠ 1 → (fun y => Tk.might s (Tk.vals ps) (Tk.vals (ps.take k)) y) = fun y => Tk.might s (Tk.vals ps) (Tk.vals (ps.take (k + 1))) y) := by
  rw [List.take_succ_eq_append_getElem hk]
  generalize ps[k] = p
  generalize Tk.vals ps = all
  refine ⟨fun h => ?_, fun h => ?_⟩
  · funext y
    simp only [Tk.might, Tk.vals, List.map_append, List.map_cons, List.map_nil, List.any_append, List.any_cons, List.any_nil, Bool.or_false]
    by_cases e : y = Tk.tv s (Tk.vl p)
    · subst e; simp [h]
    · have e' : ¬ Tk.tv s (Tk.vl p) = y := fun h => e h.symm
      simp [e, e']
  · funext y
    simp only [Tk.might, Tk.vals, List.map_append, List.map_cons, List.map_nil, List.any_append, List.any_cons, List.any_nil, Bool.or_false]
    simp [h]
/-- What lies in memory while it is found who might know. -/
structure impl_behind.BS (s : Bool) (ps : List Tk.PP) (w : World) (K M2 B9 : Nat) (wo : ByteArray) (wr : World) (k : Nat) : Prop where
  mb : Mp.MapB Try.prog 3 4 wr K k (fun y => Tk.might s (Tk.vals ps) (Tk.vals (ps.take k)) y)
  mi : Mp.MapI Try.prog 3 3 wr M2 ps.length (fun y => (Tk.cnt (!s) (Tk.vals ps) y : Int))
  b9 : wr.cell? ⟨B9, 0, none⟩ = some (.map (some K))
  b4 : wr.cell? ⟨w.heap.size, 0, none⟩ = some (.string wo)
  bel : Below w.heap.size w wr
set_option maxHeartbeats 8000000 in
set_option maxRecDepth 100000 in
theorem impl_behind.bang (s : Bool) (base lo : Nat) (v : Value) (ps : List Tk.PP) (w : World) (hH : Tk.Has 36 3 w base lo v ps) (hok : Tk.Ok ps) :
    Calls Try.prog 78 #[v, .string (Tk.wh s), .int .u8 33] w fun e w' => ∃ v', e = .returned v' ∧ Tk.Has 36 3 w' w.heap.size lo v' (impl_behind.sel s 33 ps) ∧ Below w.heap.size w w' := by
  obtain ⟨A, c, rfl, hc, hmax⟩ := hH.slice
  have hn := hok.1
  have T110 : Aside0 (∀ s' W, Below w.heap.size w W → Calls Try.prog 110 #[.slice A ps.length c, .string (Tk.wh s')] W fun e w' => ∃ M, e = .returned (.map (some M)) ∧ Aside0 (Mp.MapI Try.prog 3 3 w' M ps.length (fun y => (Tk.cnt s' (Tk.vals ps) y : Int)) ∧ Below W.heap.size W w' ∧ W.heap.size ≤ M)) := ⟨fun s' W hW =>
    (impl_counted.has s' base lo A c ps W (hH.below hW) hok).mono fun e w' ⟨M, h1, h2, h4, h3⟩ => ⟨M, h1, ⟨h2, h3, h4⟩⟩⟩
  have T112 : Aside0 (∀ W, Below w.heap.size w W → Calls Try.prog 112 #[.slice A ps.length c] W fun e w' => ∃ A' c', e = .returned (.slice A' ps.length c') ∧ Aside0 (Tk.Has 36 3 w' W.heap.size lo (.slice A' ps.length c') ps ∧ Below W.heap.size W w')) := ⟨fun W hW =>
    (slices_Clone_PP.has base lo _ ps W (hH.below hW) hn).mono fun e w' ⟨v', h1, h2, h3⟩ => by
      obtain ⟨A', c', rfl, _, _⟩ := h2.slice
      exact ⟨A', c', h1, ⟨h2, h3⟩⟩⟩
  have eg1 : ∀ args w, (callFunc 114 args).run Try.prog w = .ok (.enter 114 args) w := enters_of Try.func114 (by kernel_rfl) rfl
  have T111 : Aside0 (∀ K B9 B4 n W4 W5 A' c', Mp.MapB Try.prog 3 4 W4 K n (fun y => Tk.might s (Tk.vals ps) (Tk.vals ps) y) → W4.cell? ⟨B9, 0, none⟩ = some (.map (some K)) → W4.cell? ⟨B4, 0, none⟩ = some (.string (Tk.wh s)) → Tk.Has 36 3 W5 W4.heap.size lo (.slice A' ps.length c') ps → Below W4.heap.size W4 W5 →
      Calls Try.prog 111 #[.slice A' ps.length c', .func (.func 114) #[] #[.pointer (some ⟨B9, 0, none⟩), .pointer (some ⟨B4, 0, none⟩)]] W5 fun e w' => ∃ v'', e = .returned v'' ∧ Aside0 (Tk.Has 36 3 w' W4.heap.size lo v'' (impl_behind.sel s 33 ps) ∧ Below W4.heap.size W4 w')) := ⟨fun K B9 B4 n W4 W5 A' c' hM h7 h4 hH5 hb => by
    have keep : ∀ W, W5.grownBy W (Value.slice A' ps.length c').ownBlock → ∀ k, k < W4.heap.size → W.heap[k]? = W4.heap[k]? := fun W hg k hk =>
      (hg.block k (Nat.lt_of_lt_of_le hk hb.size) (fun e => by have := (hH5.lt k e.symm).1; omega)).trans (hb.block k hk)
    have belowW : ∀ W, W5.grownBy W (Value.slice A' ps.length c').ownBlock → Below W4.heap.size W4 W := fun W hg => ⟨hg.os.trans hb.os, hg.tape.trans hb.tape, hg.output.trans hb.output, Nat.le_trans hb.size hg.size, keep W hg⟩
    refine (slices_DeleteFunc_PP.has (fun p => Tk.might s (Tk.vals ps) (Tk.vals ps) (Tk.tv s (Tk.vl p))) _ _ eg1 W4.heap.size lo _ ps W5 hH5 (fun x hx W hg => ?_)).mono ?_
    · exact impl_behind.clo2 s (fun y => Tk.might s (Tk.vals ps) (Tk.vals ps) y) K n lo B9 B4 x W (hok.2 x hx) (fun p hp => by
        rw [List.mem_singleton.1 hp]
        exact ⟨(hH5.inn x hx).1, (hg.block _ (hH5.inn.lt x hx) (fun e => hH5.ap x hx e.symm)).trans (hH5.inn x hx).2⟩) (pw_cell_below (belowW W hg) h7) (pw_cell_below (belowW W hg) h4) (hM.below (belowW W hg))
    · rintro e w' ⟨v'', rfl, h1, hg⟩
      exact ⟨v'', rfl, ⟨h1, belowW w' hg⟩⟩⟩
  have T102 : Aside0 (∀ (s' : Bool) (p : Tk.PP) W, p ∈ ps → Tk.Inn 3 W lo ps → Calls Try.prog 102 #[.slice (some ⟨p.1, 0, none⟩) 2 2, .string (Tk.wh s')] W fun e w' => e = .returned (.int .i64 (Tk.tv s' (Tk.vl p))) ∧ ∃ j, w' = W.drewN j) := ⟨fun s' p W hp hI => by
    have := impl_value.calls (some ⟨p.1, 0, none⟩) 2 (Tk.vl p) (Tk.wh s') (Tk.tv s' (Tk.vl p)) W (hI.C p hp) (by simp [Tk.vl]) (impl_value.told s' p (hok.2 p hp))
    have hl2 : (Tk.vl p).length = 2 := rfl
    rw [hl2] at this
    exact this.mono fun e w' h => ⟨h.1, h.2.out⟩⟩
  have hmm := @run_makeMap Try.prog
  have HH := Aside0.mk hH
  have HO := Aside0.mk hok
  clear hH hok eg1
  have hb2 : Below w.heap.size w ((w.alloc (.cells #[.string (Tk.wh s)] 9)).alloc (.cells #[.int .u8 33] 5)) := below_alloc (below_alloc (Below.refl _ _) _) _
  have HB2 := Aside0.mk hb2
  have HC4 := Aside0.mk (show ((w.alloc (.cells #[.string (Tk.wh s)] 9)).alloc (.cells #[.int .u8 33] 5)).cell? ⟨w.heap.size, 0, none⟩ = some (.string (Tk.wh s)) ∧ ((w.alloc (.cells #[.string (Tk.wh s)] 9)).alloc (.cells #[.int .u8 33] 5)).cell? ⟨w.heap.size + 1, 0, none⟩ = some (.int .u8 33) from ⟨by simp, by simp⟩)
  clear hb2
  have T110s := Aside0.mk (T110.out s)
  have T110o := Aside0.mk (T110.out (!s))
  clear T110
  cases s with
  | true =>
    rw [show Tk.wh true = ⟨#[115]⟩ from rfl] at T110s HB2 HC4 T111 ⊢
    rw [show Tk.wh (!true) = ⟨#[112]⟩ from rfl] at T110o
    go_enter Try.func78, Try.ntmps78
    go_wp2_with (first
      | (go_at_call 110; refine (T110s.out _ HB2.out).mono ?_; rintro e w3 ⟨M, rfl, r3⟩; clear T110s;
         obtain ⟨W4, hW4⟩ : ∃ W4, W4 = w3.alloc (.cells #[.map (some M)] 100) := ⟨_, rfl⟩;
         have hb4 : Below w3.heap.size w3 W4 := (by rw [hW4]; exact (Below.refl _ _).alloc (Nat.le_refl _) _);
         have h4 : (w3.alloc (.cells #[.map (some M)] 100)).cell? ⟨w.heap.size, 0, none⟩ = some (.string ⟨#[115]⟩) := (by rw [← hW4]; exact pw_cell_below hb4 (pw_cell_below r3.out.2.1 HC4.out.1));
         have h5 : (w3.alloc (.cells #[.map (some M)] 100)).cell? ⟨w.heap.size + 1, 0, none⟩ = some (.int .u8 33) := (by rw [← hW4]; exact pw_cell_below hb4 (pw_cell_below r3.out.2.1 HC4.out.2));
         have R4 := Aside0.mk (show Below w.heap.size w (w3.alloc (.cells #[.map (some M)] 100)) ∧ w.heap.size + 1 < w3.heap.size from ⟨(by rw [← hW4]; exact below_step (below_step HB2.out r3.out.2.1) hb4), (by have := r3.out.2.1.size; simp at this; omega)⟩);
         clear hb4 hW4 r3)
      | (go_at_call 110; refine (T110o.out _ (below_alloc R4.out.1 _)).mono ?_; rintro e w5 ⟨M2, rfl, r5⟩; clear T110o))
    have HS0 := Aside0.mk (show impl_behind.BS true ps w (w3.heap.size + 1) M2 w5.heap.size ⟨#[115]⟩ (w5.alloc (.cells #[.map (some (w3.heap.size + 1))] 104)) 0 ∧ (w.heap.size < w3.heap.size + 1 ∧ M2 ≠ w3.heap.size + 1 ∧ w5.heap.size ≠ w3.heap.size + 1) from by
      obtain ⟨h1, h2, h3⟩ := r5.out
      have hm0 := Mp.MapB.made Try.prog 3 4 (w3.alloc (.cells #[.map (some M)] 100))
      rw [show (w3.alloc (.cells #[.map (some M)] 100)).heap.size = w3.heap.size + 1 by simp] at hm0
      have hb6 : Below w5.heap.size w5 (w5.alloc (.cells #[.map (some (w3.heap.size + 1))] 104)) := (Below.refl _ _).alloc (Nat.le_refl _) _
      have hz : ((w3.alloc (.cells #[.map (some M)] 100)).alloc (.map #[] 0)).heap.size = w3.heap.size + 1 + 1 := by simp
      have h9 := h2.size
      rw [hz] at h3 h9
      have h4' : ((w3.alloc (.cells #[.map (some M)] 100)).alloc (.map #[] 0)).cell? ⟨w.heap.size, 0, none⟩ = some (.string ⟨#[115]⟩) := pw_cell_below ((Below.refl _ _).alloc (Nat.le_refl _) _) h4
      exact ⟨⟨by simpa [Tk.vals, Tk.might] using (hm0.below h2).below hb6, h1.below hb6, by simp, pw_cell_below hb6 (pw_cell_below h2 h4'), below_step (below_step (below_alloc R4.out.1 _) h2) hb6⟩, by have := R4.out.2; omega, by omega, by omega⟩)
    generalize w3.heap.size + 1 = K at HS0
    generalize w5.heap.size = B9 at HS0
    clear h4 h5 r5 R4
    go_loopg [30] ps.length (fun gg s30 wr => ∃ k : Nat, s30 = .int .i64 (k : Int) ∧ k ≤ ps.length ∧ ps.length - k ≤ gg ∧ Aside0 (impl_behind.BS true ps w K M2 B9 ⟨#[115]⟩ wr k ∧ (w.heap.size < K ∧ M2 ≠ K ∧ B9 ≠ K)))
    case atStart => exact ⟨0, rfl, Nat.zero_le _, by omega, HS0⟩
    case round =>
      obtain ⟨k, rfl, hk, hgg, HS⟩ := hrel
      clear HS0
      have hb4 := HS.out.1.b4
      have hb9 := HS.out.1.b9
      by_cases hi : k < ps.length
      · have hkz : (k : Int) < (ps.length : Int) := by omega
        have hH := HH.out.below HS.out.1.bel
        obtain ⟨g, cap, ev, hcell⟩ := hH.at_ k hi
        obtain ⟨rfl, rfl⟩ : A = some ⟨g, 0, none⟩ ∧ c = cap := by injection ev with e1 e2 e3; exact ⟨e1, e3⟩
        have hpm : ps[k] ∈ ps := List.getElem_mem hi
        have hbdo := Tk.tv_bd (!true) ps[k] (HO.out.2 _ hpm)
        have hbds := Tk.tv_bd true ps[k] (HO.out.2 _ hpm)
        have hst := impl_behind.might_step true ps k hi
        have HIN : Aside0 (Tk.Inn 3 wr lo ps ∧ ps[k] ∈ ps) := ⟨hH.inn, hpm⟩
        have hlk : ∀ j, (Instr.lookup 100 (.map (some M2)) (.int .i64 (Tk.tv (!true) (Tk.vl ps[k]))) false).run Try.prog (wr.drewN j) = .ok (.int .i64 (Tk.cnt (!true) (Tk.vals ps) (Tk.tv (!true) (Tk.vl ps[k])) : Int)) (wr.drewN j) := fun j =>
          (HS.out.1.mi.below (pw_below_drewN (Below.refl _ _) j)).look (t := 100) Try.underlying3 Try.underlying3 Try.underlying100 (fun w => by kernel_rfl) _ (Tk.wf64 _ (by omega))
        have T102o : Aside0 (Calls Try.prog 102 #[.slice (some ⟨ps[k].1, 0, none⟩) 2 2, .string ⟨#[112]⟩] wr fun e w' => e = .returned (.int .i64 (Tk.tv (!true) (Tk.vl ps[k]))) ∧ ∃ j', w' = wr.drewN j') := ⟨T102.out (!true) ps[k] wr hpm hH.inn⟩
        have T102s : Aside0 (∀ j, Calls Try.prog 102 #[.slice (some ⟨ps[k].1, 0, none⟩) 2 2, .string ⟨#[115]⟩] (wr.drewN j) fun e w' => e = .returned (.int .i64 (Tk.tv true (Tk.vl ps[k]))) ∧ ∃ j', w' = (wr.drewN j).drewN j') := ⟨fun j => T102.out true ps[k] (wr.drewN j) hpm (hH.inn.below (pw_below_drewN (Below.refl _ _) j))⟩
        have hput : ∀ j, ∃ w', (Instr.mapUpdate 104 (.map (some K)) (.int .i64 (Tk.tv true (Tk.vl ps[k]))) (.bool true)).run Try.prog (wr.drewN j) = .ok () w' ∧ Mp.MapB Try.prog 3 4 w' K (k + 1) (fun y => if y = Tk.tv true (Tk.vl ps[k]) then true else Tk.might true (Tk.vals ps) (Tk.vals (ps.take k)) y) ∧ (wr.drewN j).grownBy w' (some K) := fun j =>
          (HS.out.1.mb.below (pw_below_drewN (Below.refl _ _) j)).put (t := 104) Try.underlying3 Try.underlying4 Try.underlying104 (by unfold maxLen; omega) _ true (Tk.wf64 _ (by omega))
        have HPUT := Aside0.mk hput
        have HST := Aside0.mk hst
        clear hput hst hbdo hbds hpm ev hH
        generalize hdv : Tk.cnt (!true) (Tk.vals ps) (Tk.tv (!true) (Tk.vl ps[k])) = d at hlk HST
        generalize Tk.tv (!true) (Tk.vl ps[k]) = xo at hlk T102o
        unfold Tk.cv at hcell
        by_cases hd : d = 1
        · subst hd
          have hdz : ((1 : Nat) : Int) = 1 := rfl
          go_wp2_with (go_at_call 102; refine T102o.out.mono ?_; rintro e w7 ⟨rfl, j7, rfl⟩; clear T102o)
          obtain ⟨F, hF⟩ := Classical.axiomOfChoice HPUT.out
          have hup : ∀ m, (Instr.mapUpdate 104 (.map (some K)) (.int .i64 (Tk.tv true (Tk.vl ps[k]))) (.bool true)).run Try.prog (wr.drewN m) = .ok () (F m) := fun m => (hF m).1
          have hc9 : ∀ m, (F m).cell? ⟨B9, 0, none⟩ = some (.map (some K)) := fun m => (World.cell?_of_block (w := wr.drewN m) ((hF m).2.2.block B9 (World.block_lt_of_cell? wr _ hb9) (fun e => HS.out.2.2.2 (by injection e)))).trans hb9
          have hc4 : ∀ m, (F m).cell? ⟨w.heap.size, 0, none⟩ = some (.string ⟨#[115]⟩) := fun m => (World.cell?_of_block (w := wr.drewN m) ((hF m).2.2.block w.heap.size (World.block_lt_of_cell? wr _ hb4) (fun e => by injection e with e; have := HS.out.2.1; omega))).trans hb4
          have HF := Aside0.mk (show ∀ m, impl_behind.BS true ps w K M2 B9 ⟨#[115]⟩ (F m) (k + 1) from fun m => by
            obtain ⟨_, h2, h3⟩ := hF m
            refine ⟨by rw [← HST.out.1 (by first | rfl | trivial)]; exact h2, (HS.out.1.mi.below (pw_below_drewN (Below.refl _ _) m)).kept h3 (fun e => HS.out.2.2.1 (by injection e)), hc9 m, hc4 m, (below_step HS.out.1.bel (pw_below_drewN (Below.refl _ _) m)).grown h3 (by have := HS.out.1.bel.size; exact this) (fun q hq => by cases hq; have := HS.out.2.1; omega)⟩)
          clear hF HPUT
          go_region_held3 (fun w' => w'.cell? ⟨B9, 0, none⟩ = some (.map (some K)) ∧ w'.cell? ⟨w.heap.size, 0, none⟩ = some (.string ⟨#[115]⟩)) (go_keep)
            (first | (go_at_call 102; refine (T102s.out _).mono ?_; rintro e w8 ⟨rfl, j8, rfl⟩))
          go_simp
          go_wp2
          go_roundg (ps.length - (k + 1))
          case measure => omega
          case rel => exact ⟨k + 1, by go_num, by omega, Nat.le_refl _, ⟨HF.out _, HS.out.2⟩⟩
        · have hdz : ¬ (d : Int) = 1 := by omega
          go_wp2_with (go_at_call 102; refine T102o.out.mono ?_; rintro e w7 ⟨rfl, j7, rfl⟩)
          go_roundg (ps.length - (k + 1))
          case measure => omega
          case rel =>
            refine ⟨k + 1, by go_num, by omega, Nat.le_refl _, ⟨?_, HS.out.2⟩⟩
            have hb := pw_below_drewN (Below.refl wr.heap.size wr) j7
            exact ⟨by rw [← HST.out.2 hd]; exact (HS.out.1.mb.below hb).mono_n (Nat.le_succ k), HS.out.1.mi.below hb, pw_cell_below hb HS.out.1.b9, pw_cell_below hb HS.out.1.b4, below_step HS.out.1.bel hb⟩
      · have hkz : ¬ (k : Int) < (ps.length : Int) := by omega
        obtain rfl : k = ps.length := by omega
        have RB := Aside0.mk (show Below w.heap.size w wr ∧ Mp.MapB Try.prog 3 4 wr K ps.length (fun y => Tk.might true (Tk.vals ps) (Tk.vals ps) y) from ⟨HS.out.1.bel, by have := HS.out.1.mb; rwa [List.take_length] at this⟩)
        go_wp2_with (first
          | (go_at_call 112; refine (T112.out _ RB.out.1).mono ?_; rintro e w8 ⟨A', c', rfl, r8⟩)
          | (go_at_call 111; refine (T111.out _ _ _ _ _ _ _ _ RB.out.2 hb9 hb4 r8.out.1 r8.out.2).mono ?_; rintro e w9 ⟨v9, rfl, r9⟩))
        go_ret
        exact ⟨_, rfl, r9.out.1.lower RB.out.1.size (Nat.le_refl _), below_step RB.out.1 r9.out.2⟩
  | false =>
    rw [show Tk.wh false = ⟨#[112]⟩ from rfl] at T110s HB2 HC4 T111 ⊢
    rw [show Tk.wh (!false) = ⟨#[115]⟩ from rfl] at T110o
    go_enter Try.func78, Try.ntmps78
    go_wp2_with (first
      | (go_at_call 110; refine (T110s.out _ HB2.out).mono ?_; rintro e w3 ⟨M, rfl, r3⟩; clear T110s;
         obtain ⟨W4, hW4⟩ : ∃ W4, W4 = w3.alloc (.cells #[.map (some M)] 100) := ⟨_, rfl⟩;
         have hb4 : Below w3.heap.size w3 W4 := (by rw [hW4]; exact (Below.refl _ _).alloc (Nat.le_refl _) _);
         have h4 : (w3.alloc (.cells #[.map (some M)] 100)).cell? ⟨w.heap.size, 0, none⟩ = some (.string ⟨#[112]⟩) := (by rw [← hW4]; exact pw_cell_below hb4 (pw_cell_below r3.out.2.1 HC4.out.1));
         have h5 : (w3.alloc (.cells #[.map (some M)] 100)).cell? ⟨w.heap.size + 1, 0, none⟩ = some (.int .u8 33) := (by rw [← hW4]; exact pw_cell_below hb4 (pw_cell_below r3.out.2.1 HC4.out.2));
         have R4 := Aside0.mk (show Below w.heap.size w (w3.alloc (.cells #[.map (some M)] 100)) ∧ w.heap.size + 1 < w3.heap.size from ⟨(by rw [← hW4]; exact below_step (below_step HB2.out r3.out.2.1) hb4), (by have := r3.out.2.1.size; simp at this; omega)⟩);
         clear hb4 hW4 r3)
      | (go_at_call 110; refine (T110o.out _ (below_alloc R4.out.1 _)).mono ?_; rintro e w5 ⟨M2, rfl, r5⟩; clear T110o))
    have HS0 := Aside0.mk (show impl_behind.BS false ps w (w3.heap.size + 1) M2 w5.heap.size ⟨#[112]⟩ (w5.alloc (.cells #[.map (some (w3.heap.size + 1))] 104)) 0 ∧ (w.heap.size < w3.heap.size + 1 ∧ M2 ≠ w3.heap.size + 1 ∧ w5.heap.size ≠ w3.heap.size + 1) from by
      obtain ⟨h1, h2, h3⟩ := r5.out
      have hm0 := Mp.MapB.made Try.prog 3 4 (w3.alloc (.cells #[.map (some M)] 100))
      rw [show (w3.alloc (.cells #[.map (some M)] 100)).heap.size = w3.heap.size + 1 by simp] at hm0
      have hb6 : Below w5.heap.size w5 (w5.alloc (.cells #[.map (some (w3.heap.size + 1))] 104)) := (Below.refl _ _).alloc (Nat.le_refl _) _
      have hz : ((w3.alloc (.cells #[.map (some M)] 100)).alloc (.map #[] 0)).heap.size = w3.heap.size + 1 + 1 := by simp
      have h9 := h2.size
      rw [hz] at h3 h9
      have h4' : ((w3.alloc (.cells #[.map (some M)] 100)).alloc (.map #[] 0)).cell? ⟨w.heap.size, 0, none⟩ = some (.string ⟨#[112]⟩) := pw_cell_below ((Below.refl _ _).alloc (Nat.le_refl _) _) h4
      exact ⟨⟨by simpa [Tk.vals, Tk.might] using (hm0.below h2).below hb6, h1.below hb6, by simp, pw_cell_below hb6 (pw_cell_below h2 h4'), below_step (below_step (below_alloc R4.out.1 _) h2) hb6⟩, by have := R4.out.2; omega, by omega, by omega⟩)
    generalize w3.heap.size + 1 = K at HS0
    generalize w5.heap.size = B9 at HS0
    clear h4 h5 r5 R4
    go_loopg [30] ps.length (fun gg s30 wr => ∃ k : Nat, s30 = .int .i64 (k : Int) ∧ k ≤ ps.length ∧ ps.length - k ≤ gg ∧ Aside0 (impl_behind.BS false ps w K M2 B9 ⟨#[112]⟩ wr k ∧ (w.heap.size < K ∧ M2 ≠ K ∧ B9 ≠ K)))
    case atStart => exact ⟨0, rfl, Nat.zero_le _, by omega, HS0⟩
    case round =>
      obtain ⟨k, rfl, hk, hgg, HS⟩ := hrel
      clear HS0
      have hb4 := HS.out.1.b4
      have hb9 := HS.out.1.b9
      by_cases hi : k < ps.length
      · have hkz : (k : Int) < (ps.length : Int) := by omega
        have hH := HH.out.below HS.out.1.bel
        obtain ⟨g, cap, ev, hcell⟩ := hH.at_ k hi
        obtain ⟨rfl, rfl⟩ : A = some ⟨g, 0, none⟩ ∧ c = cap := by injection ev with e1 e2 e3; exact ⟨e1, e3⟩
        have hpm : ps[k] ∈ ps := List.getElem_mem hi
        have hbdo := Tk.tv_bd (!false) ps[k] (HO.out.2 _ hpm)
        have hbds := Tk.tv_bd false ps[k] (HO.out.2 _ hpm)
        have hst := impl_behind.might_step false ps k hi
        have HIN : Aside0 (Tk.Inn 3 wr lo ps ∧ ps[k] ∈ ps) := ⟨hH.inn, hpm⟩
        have hlk : ∀ j, (Instr.lookup 100 (.map (some M2)) (.int .i64 (Tk.tv (!false) (Tk.vl ps[k]))) false).run Try.prog (wr.drewN j) = .ok (.int .i64 (Tk.cnt (!false) (Tk.vals ps) (Tk.tv (!false) (Tk.vl ps[k])) : Int)) (wr.drewN j) := fun j =>
          (HS.out.1.mi.below (pw_below_drewN (Below.refl _ _) j)).look (t := 100) Try.underlying3 Try.underlying3 Try.underlying100 (fun w => by kernel_rfl) _ (Tk.wf64 _ (by omega))
        have T102o : Aside0 (Calls Try.prog 102 #[.slice (some ⟨ps[k].1, 0, none⟩) 2 2, .string ⟨#[115]⟩] wr fun e w' => e = .returned (.int .i64 (Tk.tv (!false) (Tk.vl ps[k]))) ∧ ∃ j', w' = wr.drewN j') := ⟨T102.out (!false) ps[k] wr hpm hH.inn⟩
        have T102s : Aside0 (∀ j, Calls Try.prog 102 #[.slice (some ⟨ps[k].1, 0, none⟩) 2 2, .string ⟨#[112]⟩] (wr.drewN j) fun e w' => e = .returned (.int .i64 (Tk.tv false (Tk.vl ps[k]))) ∧ ∃ j', w' = (wr.drewN j).drewN j') := ⟨fun j => T102.out false ps[k] (wr.drewN j) hpm (hH.inn.below (pw_below_drewN (Below.refl _ _) j))⟩
        have hput : ∀ j, ∃ w', (Instr.mapUpdate 104 (.map (some K)) (.int .i64 (Tk.tv false (Tk.vl ps[k]))) (.bool true)).run Try.prog (wr.drewN j) = .ok () w' ∧ Mp.MapB Try.prog 3 4 w' K (k + 1) (fun y => if y = Tk.tv false (Tk.vl ps[k]) then true else Tk.might false (Tk.vals ps) (Tk.vals (ps.take k)) y) ∧ (wr.drewN j).grownBy w' (some K) := fun j =>
          (HS.out.1.mb.below (pw_below_drewN (Below.refl _ _) j)).put (t := 104) Try.underlying3 Try.underlying4 Try.underlying104 (by unfold maxLen; omega) _ true (Tk.wf64 _ (by omega))
        have HPUT := Aside0.mk hput
        have HST := Aside0.mk hst
        clear hput hst hbdo hbds hpm ev hH
        generalize hdv : Tk.cnt (!false) (Tk.vals ps) (Tk.tv (!false) (Tk.vl ps[k])) = d at hlk HST
        generalize Tk.tv (!false) (Tk.vl ps[k]) = xo at hlk T102o
        unfold Tk.cv at hcell
        by_cases hd : d = 1
        · subst hd
          have hdz : ((1 : Nat) : Int) = 1 := rfl
          go_wp2_with (go_at_call 102; refine T102o.out.mono ?_; rintro e w7 ⟨rfl, j7, rfl⟩; clear T102o)
          obtain ⟨F, hF⟩ := Classical.axiomOfChoice HPUT.out
          have hup : ∀ m, (Instr.mapUpdate 104 (.map (some K)) (.int .i64 (Tk.tv false (Tk.vl ps[k]))) (.bool true)).run Try.prog (wr.drewN m) = .ok () (F m) := fun m => (hF m).1
          have hc9 : ∀ m, (F m).cell? ⟨B9, 0, none⟩ = some (.map (some K)) := fun m => (World.cell?_of_block (w := wr.drewN m) ((hF m).2.2.block B9 (World.block_lt_of_cell? wr _ hb9) (fun e => HS.out.2.2.2 (by injection e)))).trans hb9
          have hc4 : ∀ m, (F m).cell? ⟨w.heap.size, 0, none⟩ = some (.string ⟨#[112]⟩) := fun m => (World.cell?_of_block (w := wr.drewN m) ((hF m).2.2.block w.heap.size (World.block_lt_of_cell? wr _ hb4) (fun e => by injection e with e; have := HS.out.2.1; omega))).trans hb4
          have HF := Aside0.mk (show ∀ m, impl_behind.BS false ps w K M2 B9 ⟨#[112]⟩ (F m) (k + 1) from fun m => by
            obtain ⟨_, h2, h3⟩ := hF m
            refine ⟨by rw [← HST.out.1 (by first | rfl | trivial)]; exact h2, (HS.out.1.mi.below (pw_below_drewN (Below.refl _ _) m)).kept h3 (fun e => HS.out.2.2.1 (by injection e)), hc9 m, hc4 m, (below_step HS.out.1.bel (pw_below_drewN (Below.refl _ _) m)).grown h3 (by have := HS.out.1.bel.size; exact this) (fun q hq => by cases hq; have := HS.out.2.1; omega)⟩)
          clear hF HPUT
          go_region_held3 (fun w' => w'.cell? ⟨B9, 0, none⟩ = some (.map (some K)) ∧ w'.cell? ⟨w.heap.size, 0, none⟩ = some (.string ⟨#[112]⟩)) (go_keep)
            (first | (go_at_call 102; refine (T102s.out _).mono ?_; rintro e w8 ⟨rfl, j8, rfl⟩))
          go_simp
          go_wp2
          go_roundg (ps.length - (k + 1))
          case measure => omega
          case rel => exact ⟨k + 1, by go_num, by omega, Nat.le_refl _, ⟨HF.out _, HS.out.2⟩⟩
        · have hdz : ¬ (d : Int) = 1 := by omega
          go_wp2_with (go_at_call 102; refine T102o.out.mono ?_; rintro e w7 ⟨rfl, j7, rfl⟩)
          go_roundg (ps.length - (k + 1))
          case measure => omega
          case rel =>
            refine ⟨k + 1, by go_num, by omega, Nat.le_refl _, ⟨?_, HS.out.2⟩⟩
            have hb := pw_below_drewN (Below.refl wr.heap.size wr) j7
            exact ⟨by rw [← HST.out.2 hd]; exact (HS.out.1.mb.below hb).mono_n (Nat.le_succ k), HS.out.1.mi.below hb, pw_cell_below hb HS.out.1.b9, pw_cell_below hb HS.out.1.b4, below_step HS.out.1.bel hb⟩
      · have hkz : ¬ (k : Int) < (ps.length : Int) := by omega
        obtain rfl : k = ps.length := by omega
        have RB := Aside0.mk (show Below w.heap.size w wr ∧ Mp.MapB Try.prog 3 4 wr K ps.length (fun y => Tk.might false (Tk.vals ps) (Tk.vals ps) y) from ⟨HS.out.1.bel, by have := HS.out.1.mb; rwa [List.take_length] at this⟩)
        go_wp2_with (first
          | (go_at_call 112; refine (T112.out _ RB.out.1).mono ?_; rintro e w8 ⟨A', c', rfl, r8⟩)
          | (go_at_call 111; refine (T111.out _ _ _ _ _ _ _ _ RB.out.2 hb9 hb4 r8.out.1 r8.out.2).mono ?_; rintro e w9 ⟨v9, rfl, r9⟩))
        go_ret
        exact ⟨_, rfl, r9.out.1.lower RB.out.1.size (Nat.le_refl _), below_step RB.out.1 r9.out.2⟩
theorem impl_behind.all (s : Bool) (what : Int) (base lo : Nat) (v : Value) (ps : List Tk.PP) (w : World) (hH : Tk.Has 36 3 w base lo v ps) (hok : Tk.Ok ps) :
    Calls Try.prog 78 #[v, .string (Tk.wh s), .int .u8 what] w fun e w' => ∃ v', e = .returned v' ∧ Tk.Has 36 3 w' w.heap.size lo v' (impl_behind.sel s what ps) ∧ Below w.heap.size w w' := by
  by_cases h : what = 33
  · subst h
    exact impl_behind.bang s base lo v ps w hH hok
  · exact impl_behind.has s what base lo v ps w hH hok h
theorem impl_behind.sel_vals (s : Bool) (what : Int) (ps : List Tk.PP) : Tk.vals (impl_behind.sel s what ps) = Tk.say s what (Tk.vals ps) := Tk.vals_filter ps _
theorem impl_behind.sel_ok (s : Bool) (what : Int) (ps : List Tk.PP) (h : Tk.Ok ps) : Tk.Ok (impl_behind.sel s what ps) := h.filter _

end Go.Proofs.Ytlkbphhmahipdaa.P
