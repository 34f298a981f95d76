/- Calls of the functions of the given program return what the plain Lean functions of the same names return; and a row of a law out of its pure statement. Written by a program of this session out of the translation; Lean checks it. No condition. -/
import Derived.Test.YtlkbphhmahipdaaPk0
import Derived.Test.YtlkbphhmahipdaaG0
import Derived.Test.YtlkbphhmahipdaaTk
import Derived.Test.YtlkbphhmahipdaaMp
import Derived.Test.YtlkbphhmahipdaaShl
import Derived.BigQuiet
namespace Go.Proofs.Ytlkbphhmahipdaa.P
open Go.RowKit Go.Proofs.YtlkbphhmahipdaaW.PrintWords Go.Proofs.YtlkbphhmahipdaaW.PrintLast Go.Proofs.YtlkbphhmahipdaaW.PrintMore
attribute [local go_sem] max2_int min2_int max_two min_two max_three min_three max_four min_four   -- for this text's walks alone
set_option linter.unusedVariables false
set_option linter.unusedSimpArgs false

/-! ### impl_behind: function 78, by hand -/
-- IMPORT Derived.Test.YtlkbphhmahipdaaTk
-- IMPORT Derived.Test.YtlkbphhmahipdaaMp
-- IMPORT Derived.Test.YtlkbphhmahipdaaShl
-- IMPORT Derived.BigQuiet
set_option maxHeartbeats 4000000 in
set_option maxRecDepth 100000 in
theorem impl_behind.clo1 (s : Bool) (what : Int) (f : Int → Int) (M n lo B7 B4 B5 : Nat) (p : Tk.PP) (W : World) (hbd : (1 ≤ p.2.1 ∧ p.2.1 ≤ 40) ∧ (1 ≤ p.2.2 ∧ p.2.2 ≤ 40)) (hinn : Tk.Inn 3 W lo [p])
    (h7 : W.cell? ⟨B7, 0, none⟩ = some (.map (some M))) (h4 : W.cell? ⟨B4, 0, none⟩ = some (.string (Tk.wh s))) (h5 : W.cell? ⟨B5, 0, none⟩ = some (.int .u8 what)) (hM : Mp.MapI Try.prog 3 3 W M n f) :
    Calls Try.prog 113 #[Tk.cv p, .pointer (some ⟨B7, 0, none⟩), .pointer (some ⟨B4, 0, none⟩), .pointer (some ⟨B5, 0, none⟩)] W fun e w' => e = .returned (.bool (decide (f (Tk.tv s (Tk.vl p)) = 1) != decide (what = 43))) ∧ Below W.heap.size W w' := by
  have hval := impl_value.calls (some ⟨p.1, 0, none⟩) 2 (Tk.vl p) (Tk.wh s) (Tk.tv s (Tk.vl p))
  have htold := impl_value.told s p hbd
  have htv := Tk.tv_bd s p hbd
  have hx := Tk.wf64 (Tk.tv s (Tk.vl p)) (by omega)
  have hl2 : (Tk.vl p).length = 2 := rfl
  have HV : Aside0 (∀ m, Calls Try.prog 102 #[.slice (some ⟨p.1, 0, none⟩) 2 2, .string (Tk.wh s)] (W.drewN m) fun e w2 => e = .returned (.int .i64 (Tk.tv s (Tk.vl p))) ∧ ∃ j, w2 = (W.drewN m).drewN j) := ⟨fun m => by
    have := hval (W.drewN m) (Kd.C_drewN (hinn.C p (by simp)) m) (by simp [Tk.vl]) htold
    rw [hl2] at this
    exact this.mono fun e w' h => ⟨h.1, h.2.out⟩⟩
  have hlk : ∀ m, (Instr.lookup 100 (.map (some M)) (.int .i64 (Tk.tv s (Tk.vl p))) false).run Try.prog (W.drewN m) = .ok (.int .i64 (f (Tk.tv s (Tk.vl p)))) (W.drewN m) := fun m => (hM.below (pw_below_drewN (Below.refl _ _) m)).look (t := 100) Try.underlying3 Try.underlying3 Try.underlying100 (fun w => by kernel_rfl) _ hx
  clear hM hinn hval htold htv hx hl2 hbd
  generalize f (Tk.tv s (Tk.vl p)) = d at hlk ⊢
  generalize Tk.tv s (Tk.vl p) = x at HV hlk
  generalize Tk.wh s = wo at HV h4
  unfold Tk.cv
  go_enter Try.func113, Try.ntmps113
  go_wp2_with fail
  go_quiet (first | (go_at_call 102; exact Calls.quiet_of (HV.out _)))
  go_wp2
  go_ret
  refine ⟨?_, ⟨rfl, rfl, rfl, Nat.le_refl _, fun _ _ => rfl⟩⟩
  have e1 : (d == 1) = decide (d = 1) := rfl
  have e2 : (what == 43) = decide (what = 43) := rfl
  simp only [e1, e2, Ending.returned.injEq]
  cases decide (d = 1) <;> cases decide (what = 43) <;> rfl
set_option maxHeartbeats 4000000 in
set_option maxRecDepth 100000 in
theorem impl_behind.clo2 (s : Bool) (f : Int → Bool) (M n lo B7 B4 : Nat) (p : Tk.PP) (W : World) (hbd : (1 ≤ p.2.1 ∧ p.2.1 ≤ 40) ∧ (1 ≤ p.2.2 ∧ p.2.2 ≤ 40)) (hinn : Tk.Inn 3 W lo [p])
    (h7 : W.cell? ⟨B7, 0, none⟩ = some (.map (some M))) (h4 : W.cell? ⟨B4, 0, none⟩ = some (.string (Tk.wh s))) (hM : Mp.MapB Try.prog 3 4 W M n f) :
    Calls Try.prog 114 #[Tk.cv p, .pointer (some ⟨B7, 0, none⟩), .pointer (some ⟨B4, 0, none⟩)] W fun e w' => e = .returned (.bool (f (Tk.tv s (Tk.vl p)))) ∧ Below W.heap.size W w' := by
  have hval := impl_value.calls (some ⟨p.1, 0, none⟩) 2 (Tk.vl p) (Tk.wh s) (Tk.tv s (Tk.vl p))
  have htold := impl_value.told s p hbd
  have htv := Tk.tv_bd s p hbd
  have hx := Tk.wf64 (Tk.tv s (Tk.vl p)) (by omega)
  have hl2 : (Tk.vl p).length = 2 := rfl
  have HV : Aside0 (∀ m, Calls Try.prog 102 #[.slice (some ⟨p.1, 0, none⟩) 2 2, .string (Tk.wh s)] (W.drewN m) fun e w2 => e = .returned (.int .i64 (Tk.tv s (Tk.vl p))) ∧ ∃ j, w2 = (W.drewN m).drewN j) := ⟨fun m => by
    have := hval (W.drewN m) (Kd.C_drewN (hinn.C p (by simp)) m) (by simp [Tk.vl]) htold
    rw [hl2] at this
    exact this.mono fun e w' h => ⟨h.1, h.2.out⟩⟩
  have hlk : ∀ m, (Instr.lookup 104 (.map (some M)) (.int .i64 (Tk.tv s (Tk.vl p))) false).run Try.prog (W.drewN m) = .ok (.bool (f (Tk.tv s (Tk.vl p)))) (W.drewN m) := fun m => (hM.below (pw_below_drewN (Below.refl _ _) m)).look (t := 104) Try.underlying3 Try.underlying4 Try.underlying104 (fun w => by kernel_rfl) _ hx
  clear hM hinn hval htold htv hx hl2 hbd
  generalize f (Tk.tv s (Tk.vl p)) = d at hlk ⊢
  generalize Tk.tv s (Tk.vl p) = x at HV hlk
  generalize Tk.wh s = wo at HV h4
  unfold Tk.cv
  go_enter Try.func114, Try.ntmps114
  go_wp2_with fail
  go_quiet (first | (go_at_call 102; exact Calls.quiet_of (HV.out _)))
  go_wp2
  go_ret
  exact ⟨by first | rfl | simp, ⟨rfl, rfl, rfl, Nat.le_refl _, fun _ _ => rfl⟩⟩
set_option maxHeartbeats 1000000 in
/-- slices.Clone of a row of pairs: a new row, the same pairs. -/
theorem slices_Clone_PP.has (base lo : Nat) (v : Value) (ps : List Tk.PP) (w : World) (hH : Tk.Has 36 3 w base lo v ps) (hn : ps.length ≤ 2000) :
    Calls Try.prog 112 #[v] w fun e w' => ∃ v', e = .returned v' ∧ Tk.Has 36 3 w' w.heap.size lo v' ps ∧ Below w.heap.size w w' := by
  rcases Tk.own_formP hH.row with ⟨rfl, rfl⟩ | ⟨g, cap, rfl, _, _⟩
  · refine (Try.slices_Clone_nil 0 0 w).mono ?_
    rintro e w' ⟨rfl, rfl⟩
    exact ⟨_, rfl, Tk.Has.nil _ _ _, Below.refl _ _⟩
  · have hinfo : (Try.prog.info? 36).map (fun i => (i.zero, i.size, i.bytes)) = some (some (.slice none 0 0), 1, 24) := by kernel_rfl
    obtain ⟨i0, hi, hz0, hz1, hz2⟩ := info_parts hinfo
    have hcall := Try.slices_Clone i0 (.slice none 0 0) 1 24 hi hz0 hz1 hz2 (by kernel_rfl) (by decide) (fun w => by kernel_rfl) g 0 ps.length cap (ps.map Tk.cv) w (by simp) (by unfold maxLen; omega) (by omega)
    refine (hcall ?_ ?_).mono ?_
    · intro j u hu
      rw [Nat.zero_add]
      obtain ⟨hl, rfl⟩ := List.getElem?_eq_some_iff.1 hu
      rw [List.getElem_map]
      exact (Tk.own_atP hH.row j (by simpa using hl)).1
    · intro u hu
      obtain ⟨p, _, rfl⟩ := List.mem_map.1 hu
      rfl
    · rintro e w' ⟨v', rfl, hown, _, hb⟩
      refine ⟨v', rfl, ⟨hown, hH.inn.below hb, hH.nod, fun p hp e => ?_⟩, hb⟩
      have h1 := hH.inn.lt p hp
      rcases hown.2 with ⟨rfl, _⟩ | ⟨g', cap', cur, rfl, h2, _⟩
      · simp [Value.ownBlock] at e
      · simp [Value.ownBlock] at e
        omega
theorem slices_DeleteFunc_PP.has (q : Tk.PP → Bool) (g : Nat) (lb : Array Value) (eg : ∀ args w, (callFunc g args).run Try.prog w = .ok (.enter g args) w) (base lo : Nat) (v : Value) (ps : List Tk.PP) (w : World) (hH : Tk.Has 36 3 w base lo v ps)
    (hp : ∀ x, x ∈ ps → ∀ W, w.grownBy W v.ownBlock → Calls Try.prog g (#[Tk.cv x] ++ lb) W fun e w' => e = .returned (.bool (q x)) ∧ Below W.heap.size W w') :
    Calls Try.prog 111 #[v, .func (.func g) #[] lb] w fun e w' => ∃ v', e = .returned v' ∧ Tk.Has 36 3 w' base lo v' (ps.filter fun x => !q x) ∧ w.grownBy w' v.ownBlock := by
  rcases Tk.own_formP hH.row with ⟨rfl, rfl⟩ | ⟨gb, cap, rfl, _, _⟩
  · refine (slices_DeleteFunc_PP.row q g lb eg base _ [] w hH.row hp).mono ?_
    rintro e w' ⟨v', rfl, hown, hg⟩
    exact ⟨v', rfl, ⟨hown, (fun p hp => by cases hp), by simp, (fun p hp => by cases hp)⟩, hg⟩
  · refine (slices_DeleteFunc_PP.any q g lb eg base gb cap ps w hH.row hp).mono ?_
    rintro e w' ⟨rfl, hown, hg⟩
    have hs : ∀ p ∈ ps.filter (fun x => !q x), p ∈ ps := fun p hp => (List.mem_filter.1 hp).1
    refine ⟨_, rfl, ⟨hown, fun p hp => ?_, hH.nod.sublist ((List.filter_sublist (l := ps)).map _), fun p hp => hH.ap p (hs p hp)⟩, hg⟩
    have h1 := hH.inn p (hs p hp)
    exact ⟨h1.1, (hg.block _ (hH.inn.lt p (hs p hp)) (fun e => hH.ap p (hs p hp) e.symm)).trans h1.2⟩
/-- The pairs of which the statement is true. -/
def impl_behind.sel (s : Bool) (what : Int) (ps : List Tk.PP) : List Tk.PP := ps.filter fun p => Tk.keepSay s what (Tk.vals ps) (Tk.vl p)
set_option maxHeartbeats 8000000 in
set_option maxRecDepth 100000 in
theorem impl_behind.has (s : Bool) (what : Int) (base lo : Nat) (v : Value) (ps : List Tk.PP) (w : World) (hH : Tk.Has 36 3 w base lo v ps) (hok : Tk.Ok ps) (hwhat : what ≠ 33) :
    Calls Try.prog 78 #[v, .string (Tk.wh s), .int .u8 what] w fun e w' => ∃ v', e = .returned v' ∧ Tk.Has 36 3 w' w.heap.size lo v' (impl_behind.sel s what ps) ∧ Below w.heap.size w w' := by
  obtain ⟨A, c, rfl, hc, hmax⟩ := hH.slice
  have hn := hok.1
  have T110 : Aside0 (∀ s' W, Below w.heap.size w W → Calls Try.prog 110 #[.slice A ps.length c, .string (Tk.wh s')] W fun e w' => ∃ M, e = .returned (.map (some M)) ∧ Aside0 (Mp.MapI Try.prog 3 3 w' M ps.length (fun y => (Tk.cnt s' (Tk.vals ps) y : Int)) ∧ Below W.heap.size W w')) := ⟨fun s' W hW =>
    (impl_counted.has s' base lo A c ps W (hH.below hW) hok).mono fun e w' ⟨M, h1, h2, _, h3⟩ => ⟨M, h1, ⟨h2, h3⟩⟩⟩
  have T112 : Aside0 (∀ W, Below w.heap.size w W → Calls Try.prog 112 #[.slice A ps.length c] W fun e w' => ∃ A' c', e = .returned (.slice A' ps.length c') ∧ Aside0 (Tk.Has 36 3 w' W.heap.size lo (.slice A' ps.length c') ps ∧ Below W.heap.size W w')) := ⟨fun W hW =>
    (slices_Clone_PP.has base lo _ ps W (hH.below hW) hn).mono fun e w' ⟨v', h1, h2, h3⟩ => by
      obtain ⟨A', c', rfl, _, _⟩ := h2.slice
      exact ⟨A', c', h1, ⟨h2, h3⟩⟩⟩
  have eg1 : ∀ args w, (callFunc 113 args).run Try.prog w = .ok (.enter 113 args) w := enters_of Try.func113 (by kernel_rfl) rfl
  have T111 : Aside0 (∀ M B7 B4 B5 W4 W5 A' c', Mp.MapI Try.prog 3 3 W4 M ps.length (fun y => (Tk.cnt s (Tk.vals ps) y : Int)) → W4.cell? ⟨B7, 0, none⟩ = some (.map (some M)) → W4.cell? ⟨B4, 0, none⟩ = some (.string (Tk.wh s)) → W4.cell? ⟨B5, 0, none⟩ = some (.int .u8 what) → Tk.Has 36 3 W5 W4.heap.size lo (.slice A' ps.length c') ps → Below W4.heap.size W4 W5 →
      Calls Try.prog 111 #[.slice A' ps.length c', .func (.func 113) #[] #[.pointer (some ⟨B7, 0, none⟩), .pointer (some ⟨B4, 0, none⟩), .pointer (some ⟨B5, 0, none⟩)]] W5 fun e w' => ∃ v'', e = .returned v'' ∧ Aside0 (Tk.Has 36 3 w' W4.heap.size lo v'' (impl_behind.sel s what ps) ∧ Below W4.heap.size W4 w')) := ⟨fun M B7 B4 B5 W4 W5 A' c' hM h7 h4 h5 hH5 hb => by
    have keep : ∀ W, W5.grownBy W (Value.slice A' ps.length c').ownBlock → ∀ k, k < W4.heap.size → W.heap[k]? = W4.heap[k]? := fun W hg k hk =>
      (hg.block k (Nat.lt_of_lt_of_le hk hb.size) (fun e => by have := (hH5.lt k e.symm).1; omega)).trans (hb.block k hk)
    have belowW : ∀ W, W5.grownBy W (Value.slice A' ps.length c').ownBlock → Below W4.heap.size W4 W := fun W hg => ⟨hg.os.trans hb.os, hg.tape.trans hb.tape, hg.output.trans hb.output, Nat.le_trans hb.size hg.size, keep W hg⟩
    refine (slices_DeleteFunc_PP.has (fun p => decide ((Tk.cnt s (Tk.vals ps) (Tk.tv s (Tk.vl p)) : Int) = 1) != decide (what = 43)) _ _ eg1 W4.heap.size lo _ ps W5 hH5 (fun x hx W hg => ?_)).mono ?_
    · exact impl_behind.clo1 s what (fun y => (Tk.cnt s (Tk.vals ps) y : Int)) M ps.length lo B7 B4 B5 x W (hok.2 x hx) (fun p hp => by
        rw [List.mem_singleton.1 hp]
        exact ⟨(hH5.inn x hx).1, (hg.block _ (hH5.inn.lt x hx) (fun e => hH5.ap x hx e.symm)).trans (hH5.inn x hx).2⟩) (pw_cell_below (belowW W hg) h7) (pw_cell_below (belowW W hg) h4) (pw_cell_below (belowW W hg) h5) (hM.below (belowW W hg))
    · rintro e w' ⟨v'', rfl, h1, hg⟩
      refine ⟨v'', rfl, ⟨?_, belowW w' hg⟩⟩
      have e1 : (fun p => !(decide ((Tk.cnt s (Tk.vals ps) (Tk.tv s (Tk.vl p)) : Int) = 1) != decide (what = 43))) = fun p => Tk.keepSay s what (Tk.vals ps) (Tk.vl p) := by
        funext p
        unfold Tk.keepSay
        rw [if_neg hwhat]
        have : decide ((Tk.cnt s (Tk.vals ps) (Tk.tv s (Tk.vl p)) : Int) = 1) = decide (Tk.cnt s (Tk.vals ps) (Tk.tv s (Tk.vl p)) = 1) := by
          rw [decide_eq_decide]; omega
        rw [this]
        cases decide (Tk.cnt s (Tk.vals ps) (Tk.tv s (Tk.vl p)) = 1) <;> cases decide (what = 43) <;> rfl
      rw [e1] at h1
      exact h1⟩
  clear hH hok eg1
  have T110s := Aside0.mk (T110.out s)
  clear T110
  generalize Tk.wh s = wo at T110s T111
  go_enter Try.func78, Try.ntmps78
  have hb2 : Below w.heap.size w ((w.alloc (.cells #[.string wo] 9)).alloc (.cells #[.int .u8 what] 5)) := below_alloc (below_alloc (Below.refl _ _) _) _
  have HB2 := Aside0.mk hb2
  have HC4 := Aside0.mk (show ((w.alloc (.cells #[.string wo] 9)).alloc (.cells #[.int .u8 what] 5)).cell? ⟨w.heap.size, 0, none⟩ = some (.string wo) ∧ ((w.alloc (.cells #[.string wo] 9)).alloc (.cells #[.int .u8 what] 5)).cell? ⟨w.heap.size + 1, 0, none⟩ = some (.int .u8 what) from ⟨by simp, by simp⟩)
  clear hb2
  go_wp2_with (first
    | (go_at_call 110; refine (T110s.out _ HB2.out).mono ?_; rintro e w3 ⟨M, rfl, r3⟩;
       obtain ⟨W4, hW4⟩ : ∃ W4, W4 = w3.alloc (.cells #[.map (some M)] 100) := ⟨_, rfl⟩;
       have hb4 : Below w3.heap.size w3 W4 := (by rw [hW4]; exact (Below.refl _ _).alloc (Nat.le_refl _) _);
       have h4 : (w3.alloc (.cells #[.map (some M)] 100)).cell? ⟨w.heap.size, 0, none⟩ = some (.string wo) := (by rw [← hW4]; exact pw_cell_below hb4 (pw_cell_below r3.out.2 HC4.out.1));
       have h5 : (w3.alloc (.cells #[.map (some M)] 100)).cell? ⟨w.heap.size + 1, 0, none⟩ = some (.int .u8 what) := (by rw [← hW4]; exact pw_cell_below hb4 (pw_cell_below r3.out.2 HC4.out.2));
       have R4 := Aside0.mk (show Below w.heap.size w (w3.alloc (.cells #[.map (some M)] 100)) ∧ Mp.MapI Try.prog 3 3 (w3.alloc (.cells #[.map (some M)] 100)) M ps.length (fun y => (Tk.cnt s (Tk.vals ps) y : Int)) ∧ (w3.alloc (.cells #[.map (some M)] 100)).cell? ⟨w3.heap.size, 0, none⟩ = some (.map (some M)) from (by rw [← hW4]; exact ⟨below_step (below_step HB2.out r3.out.2) hb4, r3.out.1.below hb4, (by rw [hW4]; simp)⟩));
       clear hb4 hW4 r3)
    | (go_at_call 112; refine (T112.out _ R4.out.1).mono ?_; rintro e w5 ⟨A', c', rfl, r5⟩)
    | (go_at_call 111; refine (T111.out _ _ _ _ _ _ _ _ R4.out.2.1 R4.out.2.2 h4 h5 r5.out.1 r5.out.2).mono ?_; rintro e w6 ⟨v6, rfl, r6⟩))
  go_ret
  exact ⟨_, rfl, r6.out.1.lower R4.out.1.size (Nat.le_refl _), below_step R4.out.1 r6.out.2⟩
section
variable {P : Program} {ops : Array Oper} {o : Oper} {a : Act} {Q : Exit → Act → World → Prop} {Kc : Act → World → Prop} {w w' : World}
theorem impl_behind.upd_step (hw : Region.wanted o (yielded ops a.tmps) = true) (m x v : Operand) (t : TypeId) (hop : o.op = Op.mapUpdate t m x v) (M X V : Value) (hm : a.eval m = M) (hx : a.eval x = X) (hv : a.eval v = V)
    (hrun : (Instr.mapUpdate t M X V).run P w = .ok () w') (h : Kc (a.put o.dst undef) w') : if Region.wanted o (yielded ops a.tmps) = true then Oper.wp P o a w Kc Q else Kc (a.put o.dst undef) w := by
  rw [if_pos hw]
  unfold Oper.wp
  simp [execOp, hop, hm, hx, hv, hrun, Result.andThen]
  exact h
end
theorem impl_behind.might_step (s : Bool) (ps : List Tk.PP) (k : Nat) (hk : k < ps.length) : (Tk.cnt (!s) (Tk.vals ps) (Tk.tv (!s) (Tk.vl ps[k])) = 1 → (fun y => if y = Tk.tv s (Tk.vl ps[k]) then true else Tk.might s (Tk.vals ps) (Tk.vals (ps.take k)) y) = fun y => Tk.might s (Tk.vals ps) (Tk.vals (ps.take (k + 1))) y) ∧
    (Tk.cnt (!s) (Tk.vals ps) (Tk.tv (!s) (Tk.vl ps[k])) ≠ 1 → (fun y => Tk.might s (Tk.vals ps) (Tk.vals (ps.take k)) y) = fun y => Tk.might s (Tk.vals ps) (Tk.vals (ps.take (k + 1))) y) := by
  rw [List.take_succ_eq_append_getElem hk]
  generalize ps[k] = p
  generalize Tk.vals ps = all
  refine ⟨fun h => ?_, fun h => ?_⟩
  · funext y
    simp only [Tk.might, Tk.vals, List.map_append, List.map_cons, List.map_nil, List.any_append, List.any_cons, List.any_nil, Bool.or_false]
    by_cases e : y = Tk.tv s (Tk.vl p)
    · subst e; simp [h]
    · have e' : ¬ Tk.tv s (Tk.vl p) = y := fun h => e h.symm
      simp [e, e']
  · funext y
    simp only [Tk.might, Tk.vals, List.map_append, List.map_cons, List.map_nil, List.any_append, List.any_cons, List.any_nil, Bool.or_false]
    simp [h]
/-- What lies in memory while it is found who might know. -/
structure impl_behind.BS (s : Bool) (ps : List Tk.PP) (w : World) (K M2 B9 : Nat) (wo : ByteArray) (wr : World) (k : Nat) : Prop where
  mb : Mp.MapB Try.prog 3 4 wr K k (fun y => Tk.might s (Tk.vals ps) (Tk.vals (ps.take k)) y)
  mi : Mp.MapI Try.prog 3 3 wr M2 ps.length (fun y => (Tk.cnt (!s) (Tk.vals ps) y : Int))
  b9 : wr.cell? ⟨B9, 0, none⟩ = some (.map (some K))
  b4 : wr.cell? ⟨w.heap.size, 0, none⟩ = some (.string wo)
  bel : Below w.heap.size w wr
set_option maxHeartbeats 8000000 in
set_option maxRecDepth 100000 in
theorem impl_behind.bang (s : Bool) (base lo : Nat) (v : Value) (ps : List Tk.PP) (w : World) (hH : Tk.Has 36 3 w base lo v ps) (hok : Tk.Ok ps) :
    Calls Try.prog 78 #[v, .string (Tk.wh s), .int .u8 33] w fun e w' => ∃ v', e = .returned v' ∧ Tk.Has 36 3 w' w.heap.size lo v' (impl_behind.sel s 33 ps) ∧ Below w.heap.size w w' := by
  obtain ⟨A, c, rfl, hc, hmax⟩ := hH.slice
  have hn := hok.1
  have T110 : Aside0 (∀ s' W, Below w.heap.size w W → Calls Try.prog 110 #[.slice A ps.length c, .string (Tk.wh s')] W fun e w' => ∃ M, e = .returned (.map (some M)) ∧ Aside0 (Mp.MapI Try.prog 3 3 w' M ps.length (fun y => (Tk.cnt s' (Tk.vals ps) y : Int)) ∧ Below W.heap.size W w' ∧ W.heap.size ≤ M)) := ⟨fun s' W hW =>
    (impl_counted.has s' base lo A c ps W (hH.below hW) hok).mono fun e w' ⟨M, h1, h2, h4, h3⟩ => ⟨M, h1, ⟨h2, h3, h4⟩⟩⟩
  have T112 : Aside0 (∀ W, Below w.heap.size w W → Calls Try.prog 112 #[.slice A ps.length c] W fun e w' => ∃ A' c', e = .returned (.slice A' ps.length c') ∧ Aside0 (Tk.Has 36 3 w' W.heap.size lo (.slice A' ps.length c') ps ∧ Below W.heap.size W w')) := ⟨fun W hW =>
    (slices_Clone_PP.has base lo _ ps W (hH.below hW) hn).mono fun e w' ⟨v', h1, h2, h3⟩ => by
      obtain ⟨A', c', rfl, _, _⟩ := h2.slice
      exact ⟨A', c', h1, ⟨h2, h3⟩⟩⟩
  have eg1 : ∀ args w, (callFunc 114 args).run Try.prog w = .ok (.enter 114 args) w := enters_of Try.func114 (by kernel_rfl) rfl
  have T111 : Aside0 (∀ K B9 B4 n W4 W5 A' c', Mp.MapB Try.prog 3 4 W4 K n (fun y => Tk.might s (Tk.vals ps) (Tk.vals ps) y) → W4.cell? ⟨B9, 0, none⟩ = some (.map (some K)) → W4.cell? ⟨B4, 0, none⟩ = some (.string (Tk.wh s)) → Tk.Has 36 3 W5 W4.heap.size lo (.slice A' ps.length c') ps → Below W4.heap.size W4 W5 →
      Calls Try.prog 111 #[.slice A' ps.length c', .func (.func 114) #[] #[.pointer (some ⟨B9, 0, none⟩), .pointer (some ⟨B4, 0, none⟩)]] W5 fun e w' => ∃ v'', e = .returned v'' ∧ Aside0 (Tk.Has 36 3 w' W4.heap.size lo v'' (impl_behind.sel s 33 ps) ∧ Below W4.heap.size W4 w')) := ⟨fun K B9 B4 n W4 W5 A' c' hM h7 h4 hH5 hb => by
    have keep : ∀ W, W5.grownBy W (Value.slice A' ps.length c').ownBlock → ∀ k, k < W4.heap.size → W.heap[k]? = W4.heap[k]? := fun W hg k hk =>
      (hg.block k (Nat.lt_of_lt_of_le hk hb.size) (fun e => by have := (hH5.lt k e.symm).1; omega)).trans (hb.block k hk)
    have belowW : ∀ W, W5.grownBy W (Value.slice A' ps.length c').ownBlock → Below W4.heap.size W4 W := fun W hg => ⟨hg.os.trans hb.os, hg.tape.trans hb.tape, hg.output.trans hb.output, Nat.le_trans hb.size hg.size, keep W hg⟩
    refine (slices_DeleteFunc_PP.has (fun p => Tk.might s (Tk.vals ps) (Tk.vals ps) (Tk.tv s (Tk.vl p))) _ _ eg1 W4.heap.size lo _ ps W5 hH5 (fun x hx W hg => ?_)).mono ?_
    · exact impl_behind.clo2 s (fun y => Tk.might s (Tk.vals ps) (Tk.vals ps) y) K n lo B9 B4 x W (hok.2 x hx) (fun p hp => by
        rw [List.mem_singleton.1 hp]
        exact ⟨(hH5.inn x hx).1, (hg.block _ (hH5.inn.lt x hx) (fun e => hH5.ap x hx e.symm)).trans (hH5.inn x hx).2⟩) (pw_cell_below (belowW W hg) h7) (pw_cell_below (belowW W hg) h4) (hM.below (belowW W hg))
    · rintro e w' ⟨v'', rfl, h1, hg⟩
      exact ⟨v'', rfl, ⟨h1, belowW w' hg⟩⟩⟩
  have T102 : Aside0 (∀ (s' : Bool) (p : Tk.PP) W, p ∈ ps → Tk.Inn 3 W lo ps → Calls Try.prog 102 #[.slice (some ⟨p.1, 0, none⟩) 2 2, .string (Tk.wh s')] W fun e w' => e = .returned (.int .i64 (Tk.tv s' (Tk.vl p))) ∧ ∃ j, w' = W.drewN j) := ⟨fun s' p W hp hI => by
    have := impl_value.calls (some ⟨p.1, 0, none⟩) 2 (Tk.vl p) (Tk.wh s') (Tk.tv s' (Tk.vl p)) W (hI.C p hp) (by simp [Tk.vl]) (impl_value.told s' p (hok.2 p hp))
    have hl2 : (Tk.vl p).length = 2 := rfl
    rw [hl2] at this
    exact this.mono fun e w' h => ⟨h.1, h.2.out⟩⟩
  have hmm := @run_makeMap Try.prog
  have HH := Aside0.mk hH
  have HO := Aside0.mk hok
  clear hH hok eg1
  have hb2 : Below w.heap.size w ((w.alloc (.cells #[.string (Tk.wh s)] 9)).alloc (.cells #[.int .u8 33] 5)) := below_alloc (below_alloc (Below.refl _ _) _) _
  have HB2 := Aside0.mk hb2
  have HC4 := Aside0.mk (show ((w.alloc (.cells #[.string (Tk.wh s)] 9)).alloc (.cells #[.int .u8 33] 5)).cell? ⟨w.heap.size, 0, none⟩ = some (.string (Tk.wh s)) ∧ ((w.alloc (.cells #[.string (Tk.wh s)] 9)).alloc (.cells #[.int .u8 33] 5)).cell? ⟨w.heap.size + 1, 0, none⟩ = some (.int .u8 33) from ⟨by simp, by simp⟩)
  clear hb2
  have T110s := Aside0.mk (T110.out s)
  have T110o := Aside0.mk (T110.out (!s))
  clear T110
  cases s with
  | true =>
    rw [show Tk.wh true = ⟨#[115]⟩ from rfl] at T110s HB2 HC4 T111 ⊢
    rw [show Tk.wh (!true) = ⟨#[112]⟩ from rfl] at T110o
    go_enter Try.func78, Try.ntmps78
    go_wp2_with (first
      | (go_at_call 110; refine (T110s.out _ HB2.out).mono ?_; rintro e w3 ⟨M, rfl, r3⟩; clear T110s;
         obtain ⟨W4, hW4⟩ : ∃ W4, W4 = w3.alloc (.cells #[.map (some M)] 100) := ⟨_, rfl⟩;
         have hb4 : Below w3.heap.size w3 W4 := (by rw [hW4]; exact (Below.refl _ _).alloc (Nat.le_refl _) _);
         have h4 : (w3.alloc (.cells #[.map (some M)] 100)).cell? ⟨w.heap.size, 0, none⟩ = some (.string ⟨#[115]⟩) := (by rw [← hW4]; exact pw_cell_below hb4 (pw_cell_below r3.out.2.1 HC4.out.1));
         have h5 : (w3.alloc (.cells #[.map (some M)] 100)).cell? ⟨w.heap.size + 1, 0, none⟩ = some (.int .u8 33) := (by rw [← hW4]; exact pw_cell_below hb4 (pw_cell_below r3.out.2.1 HC4.out.2));
         have R4 := Aside0.mk (show Below w.heap.size w (w3.alloc (.cells #[.map (some M)] 100)) ∧ w.heap.size + 1 < w3.heap.size from ⟨(by rw [← hW4]; exact below_step (below_step HB2.out r3.out.2.1) hb4), (by have := r3.out.2.1.size; simp at this; omega)⟩);
         clear hb4 hW4 r3)
      | (go_at_call 110; refine (T110o.out _ (below_alloc R4.out.1 _)).mono ?_; rintro e w5 ⟨M2, rfl, r5⟩; clear T110o))
    have HS0 := Aside0.mk (show impl_behind.BS true ps w (w3.heap.size + 1) M2 w5.heap.size ⟨#[115]⟩ (w5.alloc (.cells #[.map (some (w3.heap.size + 1))] 104)) 0 ∧ (w.heap.size < w3.heap.size + 1 ∧ M2 ≠ w3.heap.size + 1 ∧ w5.heap.size ≠ w3.heap.size + 1) from by
      obtain ⟨h1, h2, h3⟩ := r5.out
      have hm0 := Mp.MapB.made Try.prog 3 4 (w3.alloc (.cells #[.map (some M)] 100))
      rw [show (w3.alloc (.cells #[.map (some M)] 100)).heap.size = w3.heap.size + 1 by simp] at hm0
      have hb6 : Below w5.heap.size w5 (w5.alloc (.cells #[.map (some (w3.heap.size + 1))] 104)) := (Below.refl _ _).alloc (Nat.le_refl _) _
      have hz : ((w3.alloc (.cells #[.map (some M)] 100)).alloc (.map #[] 0)).heap.size = w3.heap.size + 1 + 1 := by simp
      have h9 := h2.size
      rw [hz] at h3 h9
      have h4' : ((w3.alloc (.cells #[.map (some M)] 100)).alloc (.map #[] 0)).cell? ⟨w.heap.size, 0, none⟩ = some (.string ⟨#[115]⟩) := pw_cell_below ((Below.refl _ _).alloc (Nat.le_refl _) _) h4
      exact ⟨⟨by simpa [Tk.vals, Tk.might] using (hm0.below h2).below hb6, h1.below hb6, by simp, pw_cell_below hb6 (pw_cell_below h2 h4'), below_step (below_step (below_alloc R4.out.1 _) h2) hb6⟩, by have := R4.out.2; omega, by omega, by omega⟩)
    generalize w3.heap.size + 1 = K at HS0
    generalize w5.heap.size = B9 at HS0
    clear h4 h5 r5 R4
    go_loopg [30] ps.length (fun gg s30 wr => ∃ k : Nat, s30 = .int .i64 (k : Int) ∧ k ≤ ps.length ∧ ps.length - k ≤ gg ∧ Aside0 (impl_behind.BS true ps w K M2 B9 ⟨#[115]⟩ wr k ∧ (w.heap.size < K ∧ M2 ≠ K ∧ B9 ≠ K)))
    case atStart => exact ⟨0, rfl, Nat.zero_le _, by omega, HS0⟩
    case round =>
      obtain ⟨k, rfl, hk, hgg, HS⟩ := hrel
      clear HS0
      have hb4 := HS.out.1.b4
      have hb9 := HS.out.1.b9
      by_cases hi : k < ps.length
      · have hkz : (k : Int) < (ps.length : Int) := by omega
        have hH := HH.out.below HS.out.1.bel
        obtain ⟨g, cap, ev, hcell⟩ := hH.at_ k hi
        obtain ⟨rfl, rfl⟩ : A = some ⟨g, 0, none⟩ ∧ c = cap := by injection ev with e1 e2 e3; exact ⟨e1, e3⟩
        have hpm : ps[k] ∈ ps := List.getElem_mem hi
        have hbdo := Tk.tv_bd (!true) ps[k] (HO.out.2 _ hpm)
        have hbds := Tk.tv_bd true ps[k] (HO.out.2 _ hpm)
        have hst := impl_behind.might_step true ps k hi
        have HIN : Aside0 (Tk.Inn 3 wr lo ps ∧ ps[k] ∈ ps) := ⟨hH.inn, hpm⟩
        have hlk : ∀ j, (Instr.lookup 100 (.map (some M2)) (.int .i64 (Tk.tv (!true) (Tk.vl ps[k]))) false).run Try.prog (wr.drewN j) = .ok (.int .i64 (Tk.cnt (!true) (Tk.vals ps) (Tk.tv (!true) (Tk.vl ps[k])) : Int)) (wr.drewN j) := fun j =>
          (HS.out.1.mi.below (pw_below_drewN (Below.refl _ _) j)).look (t := 100) Try.underlying3 Try.underlying3 Try.underlying100 (fun w => by kernel_rfl) _ (Tk.wf64 _ (by omega))
        have T102o : Aside0 (Calls Try.prog 102 #[.slice (some ⟨ps[k].1, 0, none⟩) 2 2, .string ⟨#[112]⟩] wr fun e w' => e = .returned (.int .i64 (Tk.tv (!true) (Tk.vl ps[k]))) ∧ ∃ j', w' = wr.drewN j') := ⟨T102.out (!true) ps[k] wr hpm hH.inn⟩
        have T102s : Aside0 (∀ j, Calls Try.prog 102 #[.slice (some ⟨ps[k].1, 0, none⟩) 2 2, .string ⟨#[115]⟩] (wr.drewN j) fun e w' => e = .returned (.int .i64 (Tk.tv true (Tk.vl ps[k]))) ∧ ∃ j', w' = (wr.drewN j).drewN j') := ⟨fun j => T102.out true ps[k] (wr.drewN j) hpm (hH.inn.below (pw_below_drewN (Below.refl _ _) j))⟩
        have hput : ∀ j, ∃ w', (Instr.mapUpdate 104 (.map (some K)) (.int .i64 (Tk.tv true (Tk.vl ps[k]))) (.bool true)).run Try.prog (wr.drewN j) = .ok () w' ∧ Mp.MapB Try.prog 3 4 w' K (k + 1) (fun y => if y = Tk.tv true (Tk.vl ps[k]) then true else Tk.might true (Tk.vals ps) (Tk.vals (ps.take k)) y) ∧ (wr.drewN j).grownBy w' (some K) := fun j =>
          (HS.out.1.mb.below (pw_below_drewN (Below.refl _ _) j)).put (t := 104) Try.underlying3 Try.underlying4 Try.underlying104 (by unfold maxLen; omega) _ true (Tk.wf64 _ (by omega))
        have HPUT := Aside0.mk hput
        have HST := Aside0.mk hst
        clear hput hst hbdo hbds hpm ev hH
        generalize hdv : Tk.cnt (!true) (Tk.vals ps) (Tk.tv (!true) (Tk.vl ps[k])) = d at hlk HST
        generalize Tk.tv (!true) (Tk.vl ps[k]) = xo at hlk T102o
        unfold Tk.cv at hcell
        by_cases hd : d = 1
        · subst hd
          have hdz : ((1 : Nat) : Int) = 1 := rfl
          go_wp2_with (go_at_call 102; refine T102o.out.mono ?_; rintro e w7 ⟨rfl, j7, rfl⟩; clear T102o)
          obtain ⟨F, hF⟩ := Classical.axiomOfChoice HPUT.out
          have hup : ∀ m, (Instr.mapUpdate 104 (.map (some K)) (.int .i64 (Tk.tv true (Tk.vl ps[k]))) (.bool true)).run Try.prog (wr.drewN m) = .ok () (F m) := fun m => (hF m).1
          have hc9 : ∀ m, (F m).cell? ⟨B9, 0, none⟩ = some (.map (some K)) := fun m => (World.cell?_of_block (w := wr.drewN m) ((hF m).2.2.block B9 (World.block_lt_of_cell? wr _ hb9) (fun e => HS.out.2.2.2 (by injection e)))).trans hb9
          have hc4 : ∀ m, (F m).cell? ⟨w.heap.size, 0, none⟩ = some (.string ⟨#[115]⟩) := fun m => (World.cell?_of_block (w := wr.drewN m) ((hF m).2.2.block w.heap.size (World.block_lt_of_cell? wr _ hb4) (fun e => by injection e with e; have := HS.out.2.1; omega))).trans hb4
          have HF := Aside0.mk (show ∀ m, impl_behind.BS true ps w K M2 B9 ⟨#[115]⟩ (F m) (k + 1) from fun m => by
            obtain ⟨_, h2, h3⟩ := hF m
            refine ⟨by rw [← HST.out.1 (by first | rfl | trivial)]; exact h2, (HS.out.1.mi.below (pw_below_drewN (Below.refl _ _) m)).kept h3 (fun e => HS.out.2.2.1 (by injection e)), hc9 m, hc4 m, (below_step HS.out.1.bel (pw_below_drewN (Below.refl _ _) m)).grown h3 (by have := HS.out.1.bel.size; exact this) (fun q hq => by cases hq; have := HS.out.2.1; omega)⟩)
          clear hF HPUT
          go_region_held3 (fun w' => w'.cell? ⟨B9, 0, none⟩ = some (.map (some K)) ∧ w'.cell? ⟨w.heap.size, 0, none⟩ = some (.string ⟨#[115]⟩)) (go_keep)
            (first | (go_at_call 102; refine (T102s.out _).mono ?_; rintro e w8 ⟨rfl, j8, rfl⟩))
          go_simp
          go_wp2
          go_roundg (ps.length - (k + 1))
          case measure => omega
          case rel => exact ⟨k + 1, by go_num, by omega, Nat.le_refl _, ⟨HF.out _, HS.out.2⟩⟩
        · have hdz : ¬ (d : Int) = 1 := by omega
          go_wp2_with (go_at_call 102; refine T102o.out.mono ?_; rintro e w7 ⟨rfl, j7, rfl⟩)
          go_roundg (ps.length - (k + 1))
          case measure => omega
          case rel =>
            refine ⟨k + 1, by go_num, by omega, Nat.le_refl _, ⟨?_, HS.out.2⟩⟩
            have hb := pw_below_drewN (Below.refl wr.heap.size wr) j7
            exact ⟨by rw [← HST.out.2 hd]; exact (HS.out.1.mb.below hb).mono_n (Nat.le_succ k), HS.out.1.mi.below hb, pw_cell_below hb HS.out.1.b9, pw_cell_below hb HS.out.1.b4, below_step HS.out.1.bel hb⟩
      · have hkz : ¬ (k : Int) < (ps.length : Int) := by omega
        obtain rfl : k = ps.length := by omega
        have RB := Aside0.mk (show Below w.heap.size w wr ∧ Mp.MapB Try.prog 3 4 wr K ps.length (fun y => Tk.might true (Tk.vals ps) (Tk.vals ps) y) from ⟨HS.out.1.bel, by have := HS.out.1.mb; rwa [List.take_length] at this⟩)
        go_wp2_with (first
          | (go_at_call 112; refine (T112.out _ RB.out.1).mono ?_; rintro e w8 ⟨A', c', rfl, r8⟩)
          | (go_at_call 111; refine (T111.out _ _ _ _ _ _ _ _ RB.out.2 hb9 hb4 r8.out.1 r8.out.2).mono ?_; rintro e w9 ⟨v9, rfl, r9⟩))
        go_ret
        exact ⟨_, rfl, r9.out.1.lower RB.out.1.size (Nat.le_refl _), below_step RB.out.1 r9.out.2⟩
  | false =>
    rw [show Tk.wh false = ⟨#[112]⟩ from rfl] at T110s HB2 HC4 T111 ⊢
    rw [show Tk.wh (!false) = ⟨#[115]⟩ from rfl] at T110o
    go_enter Try.func78, Try.ntmps78
    go_wp2_with (first
      | (go_at_call 110; refine (T110s.out _ HB2.out).mono ?_; rintro e w3 ⟨M, rfl, r3⟩; clear T110s;
         obtain ⟨W4, hW4⟩ : ∃ W4, W4 = w3.alloc (.cells #[.map (some M)] 100) := ⟨_, rfl⟩;
         have hb4 : Below w3.heap.size w3 W4 := (by rw [hW4]; exact (Below.refl _ _).alloc (Nat.le_refl _) _);
         have h4 : (w3.alloc (.cells #[.map (some M)] 100)).cell? ⟨w.heap.size, 0, none⟩ = some (.string ⟨#[112]⟩) := (by rw [← hW4]; exact pw_cell_below hb4 (pw_cell_below r3.out.2.1 HC4.out.1));
         have h5 : (w3.alloc (.cells #[.map (some M)] 100)).cell? ⟨w.heap.size + 1, 0, none⟩ = some (.int .u8 33) := (by rw [← hW4]; exact pw_cell_below hb4 (pw_cell_below r3.out.2.1 HC4.out.2));
         have R4 := Aside0.mk (show Below w.heap.size w (w3.alloc (.cells #[.map (some M)] 100)) ∧ w.heap.size + 1 < w3.heap.size from ⟨(by rw [← hW4]; exact below_step (below_step HB2.out r3.out.2.1) hb4), (by have := r3.out.2.1.size; simp at this; omega)⟩);
         clear hb4 hW4 r3)
      | (go_at_call 110; refine (T110o.out _ (below_alloc R4.out.1 _)).mono ?_; rintro e w5 ⟨M2, rfl, r5⟩; clear T110o))
    have HS0 := Aside0.mk (show impl_behind.BS false ps w (w3.heap.size + 1) M2 w5.heap.size ⟨#[112]⟩ (w5.alloc (.cells #[.map (some (w3.heap.size + 1))] 104)) 0 ∧ (w.heap.size < w3.heap.size + 1 ∧ M2 ≠ w3.heap.size + 1 ∧ w5.heap.size ≠ w3.heap.size + 1) from by
      obtain ⟨h1, h2, h3⟩ := r5.out
      have hm0 := Mp.MapB.made Try.prog 3 4 (w3.alloc (.cells #[.map (some M)] 100))
      rw [show (w3.alloc (.cells #[.map (some M)] 100)).heap.size = w3.heap.size + 1 by simp] at hm0
      have hb6 : Below w5.heap.size w5 (w5.alloc (.cells #[.map (some (w3.heap.size + 1))] 104)) := (Below.refl _ _).alloc (Nat.le_refl _) _
      have hz : ((w3.alloc (.cells #[.map (some M)] 100)).alloc (.map #[] 0)).heap.size = w3.heap.size + 1 + 1 := by simp
      have h9 := h2.size
      rw [hz] at h3 h9
      have h4' : ((w3.alloc (.cells #[.map (some M)] 100)).alloc (.map #[] 0)).cell? ⟨w.heap.size, 0, none⟩ = some (.string ⟨#[112]⟩) := pw_cell_below ((Below.refl _ _).alloc (Nat.le_refl _) _) h4
      exact ⟨⟨by simpa [Tk.vals, Tk.might] using (hm0.below h2).below hb6, h1.below hb6, by simp, pw_cell_below hb6 (pw_cell_below h2 h4'), below_step (below_step (below_alloc R4.out.1 _) h2) hb6⟩, by have := R4.out.2; omega, by omega, by omega⟩)
    generalize w3.heap.size + 1 = K at HS0
    generalize w5.heap.size = B9 at HS0
    clear h4 h5 r5 R4
    go_loopg [30] ps.length (fun gg s30 wr => ∃ k : Nat, s30 = .int .i64 (k : Int) ∧ k ≤ ps.length ∧ ps.length - k ≤ gg ∧ Aside0 (impl_behind.BS false ps w K M2 B9 ⟨#[112]⟩ wr k ∧ (w.heap.size < K ∧ M2 ≠ K ∧ B9 ≠ K)))
    case atStart => exact ⟨0, rfl, Nat.zero_le _, by omega, HS0⟩
    case round =>
      obtain ⟨k, rfl, hk, hgg, HS⟩ := hrel
      clear HS0
      have hb4 := HS.out.1.b4
      have hb9 := HS.out.1.b9
      by_cases hi : k < ps.length
      · have hkz : (k : Int) < (ps.length : Int) := by omega
        have hH := HH.out.below HS.out.1.bel
        obtain ⟨g, cap, ev, hcell⟩ := hH.at_ k hi
        obtain ⟨rfl, rfl⟩ : A = some ⟨g, 0, none⟩ ∧ c = cap := by injection ev with e1 e2 e3; exact ⟨e1, e3⟩
        have hpm : ps[k] ∈ ps := List.getElem_mem hi
        have hbdo := Tk.tv_bd (!false) ps[k] (HO.out.2 _ hpm)
        have hbds := Tk.tv_bd false ps[k] (HO.out.2 _ hpm)
        have hst := impl_behind.might_step false ps k hi
        have HIN : Aside0 (Tk.Inn 3 wr lo ps ∧ ps[k] ∈ ps) := ⟨hH.inn, hpm⟩
        have hlk : ∀ j, (Instr.lookup 100 (.map (some M2)) (.int .i64 (Tk.tv (!false) (Tk.vl ps[k]))) false).run Try.prog (wr.drewN j) = .ok (.int .i64 (Tk.cnt (!false) (Tk.vals ps) (Tk.tv (!false) (Tk.vl ps[k])) : Int)) (wr.drewN j) := fun j =>
          (HS.out.1.mi.below (pw_below_drewN (Below.refl _ _) j)).look (t := 100) Try.underlying3 Try.underlying3 Try.underlying100 (fun w => by kernel_rfl) _ (Tk.wf64 _ (by omega))
        have T102o : Aside0 (Calls Try.prog 102 #[.slice (some ⟨ps[k].1, 0, none⟩) 2 2, .string ⟨#[115]⟩] wr fun e w' => e = .returned (.int .i64 (Tk.tv (!false) (Tk.vl ps[k]))) ∧ ∃ j', w' = wr.drewN j') := ⟨T102.out (!false) ps[k] wr hpm hH.inn⟩
        have T102s : Aside0 (∀ j, Calls Try.prog 102 #[.slice (some ⟨ps[k].1, 0, none⟩) 2 2, .string ⟨#[112]⟩] (wr.drewN j) fun e w' => e = .returned (.int .i64 (Tk.tv false (Tk.vl ps[k]))) ∧ ∃ j', w' = (wr.drewN j).drewN j') := ⟨fun j => T102.out false ps[k] (wr.drewN j) hpm (hH.inn.below (pw_below_drewN (Below.refl _ _) j))⟩
        have hput : ∀ j, ∃ w', (Instr.mapUpdate 104 (.map (some K)) (.int .i64 (Tk.tv false (Tk.vl ps[k]))) (.bool true)).run Try.prog (wr.drewN j) = .ok () w' ∧ Mp.MapB Try.prog 3 4 w' K (k + 1) (fun y => if y = Tk.tv false (Tk.vl ps[k]) then true else Tk.might false (Tk.vals ps) (Tk.vals (ps.take k)) y) ∧ (wr.drewN j).grownBy w' (some K) := fun j =>
          (HS.out.1.mb.below (pw_below_drewN (Below.refl _ _) j)).put (t := 104) Try.underlying3 Try.underlying4 Try.underlying104 (by unfold maxLen; omega) _ true (Tk.wf64 _ (by omega))
        have HPUT := Aside0.mk hput
        have HST := Aside0.mk hst
        clear hput hst hbdo hbds hpm ev hH
        generalize hdv : Tk.cnt (!false) (Tk.vals ps) (Tk.tv (!false) (Tk.vl ps[k])) = d at hlk HST
        generalize Tk.tv (!false) (Tk.vl ps[k]) = xo at hlk T102o
        unfold Tk.cv at hcell
        by_cases hd : d = 1
        · subst hd
          have hdz : ((1 : Nat) : Int) = 1 := rfl
          go_wp2_with (go_at_call 102; refine T102o.out.mono ?_; rintro e w7 ⟨rfl, j7, rfl⟩; clear T102o)
          obtain ⟨F, hF⟩ := Classical.axiomOfChoice HPUT.out
          have hup : ∀ m, (Instr.mapUpdate 104 (.map (some K)) (.int .i64 (Tk.tv false (Tk.vl ps[k]))) (.bool true)).run Try.prog (wr.drewN m) = .ok () (F m) := fun m => (hF m).1
          have hc9 : ∀ m, (F m).cell? ⟨B9, 0, none⟩ = some (.map (some K)) := fun m => (World.cell?_of_block (w := wr.drewN m) ((hF m).2.2.block B9 (World.block_lt_of_cell? wr _ hb9) (fun e => HS.out.2.2.2 (by injection e)))).trans hb9
          have hc4 : ∀ m, (F m).cell? ⟨w.heap.size, 0, none⟩ = some (.string ⟨#[112]⟩) := fun m => (World.cell?_of_block (w := wr.drewN m) ((hF m).2.2.block w.heap.size (World.block_lt_of_cell? wr _ hb4) (fun e => by injection e with e; have := HS.out.2.1; omega))).trans hb4
          have HF := Aside0.mk (show ∀ m, impl_behind.BS false ps w K M2 B9 ⟨#[112]⟩ (F m) (k + 1) from fun m => by
            obtain ⟨_, h2, h3⟩ := hF m
            refine ⟨by rw [← HST.out.1 (by first | rfl | trivial)]; exact h2, (HS.out.1.mi.below (pw_below_drewN (Below.refl _ _) m)).kept h3 (fun e => HS.out.2.2.1 (by injection e)), hc9 m, hc4 m, (below_step HS.out.1.bel (pw_below_drewN (Below.refl _ _) m)).grown h3 (by have := HS.out.1.bel.size; exact this) (fun q hq => by cases hq; have := HS.out.2.1; omega)⟩)
          clear hF HPUT
          go_region_held3 (fun w' => w'.cell? ⟨B9, 0, none⟩ = some (.map (some K)) ∧ w'.cell? ⟨w.heap.size, 0, none⟩ = some (.string ⟨#[112]⟩)) (go_keep)
            (first | (go_at_call 102; refine (T102s.out _).mono ?_; rintro e w8 ⟨rfl, j8, rfl⟩))
          go_simp
          go_wp2
          go_roundg (ps.length - (k + 1))
          case measure => omega
          case rel => exact ⟨k + 1, by go_num, by omega, Nat.le_refl _, ⟨HF.out _, HS.out.2⟩⟩
        · have hdz : ¬ (d : Int) = 1 := by omega
          go_wp2_with (go_at_call 102; refine T102o.out.mono ?_; rintro e w7 ⟨rfl, j7, rfl⟩)
          go_roundg (ps.length - (k + 1))
          case measure => omega
          case rel =>
            refine ⟨k + 1, by go_num, by omega, Nat.le_refl _, ⟨?_, HS.out.2⟩⟩
            have hb := pw_below_drewN (Below.refl wr.heap.size wr) j7
            exact ⟨by rw [← HST.out.2 hd]; exact (HS.out.1.mb.below hb).mono_n (Nat.le_succ k), HS.out.1.mi.below hb, pw_cell_below hb HS.out.1.b9, pw_cell_below hb HS.out.1.b4, below_step HS.out.1.bel hb⟩
      · have hkz : ¬ (k : Int) < (ps.length : Int) := by omega
        obtain rfl : k = ps.length := by omega
        have RB := Aside0.mk (show Below w.heap.size w wr ∧ Mp.MapB Try.prog 3 4 wr K ps.length (fun y => Tk.might false (Tk.vals ps) (Tk.vals ps) y) from ⟨HS.out.1.bel, by have := HS.out.1.mb; rwa [List.take_length] at this⟩)
        go_wp2_with (first
          | (go_at_call 112; refine (T112.out _ RB.out.1).mono ?_; rintro e w8 ⟨A', c', rfl, r8⟩)
          | (go_at_call 111; refine (T111.out _ _ _ _ _ _ _ _ RB.out.2 hb9 hb4 r8.out.1 r8.out.2).mono ?_; rintro e w9 ⟨v9, rfl, r9⟩))
        go_ret
        exact ⟨_, rfl, r9.out.1.lower RB.out.1.size (Nat.le_refl _), below_step RB.out.1 r9.out.2⟩
theorem impl_behind.all (s : Bool) (what : Int) (base lo : Nat) (v : Value) (ps : List Tk.PP) (w : World) (hH : Tk.Has 36 3 w base lo v ps) (hok : Tk.Ok ps) :
    Calls Try.prog 78 #[v, .string (Tk.wh s), .int .u8 what] w fun e w' => ∃ v', e = .returned v' ∧ Tk.Has 36 3 w' w.heap.size lo v' (impl_behind.sel s what ps) ∧ Below w.heap.size w w' := by
  by_cases h : what = 33
  · subst h
    exact impl_behind.bang s base lo v ps w hH hok
  · exact impl_behind.has s what base lo v ps w hH hok h
theorem impl_behind.sel_vals (s : Bool) (what : Int) (ps : List Tk.PP) : Tk.vals (impl_behind.sel s what ps) = Tk.say s what (Tk.vals ps) := Tk.vals_filter ps _
theorem impl_behind.sel_ok (s : Bool) (what : Int) (ps : List Tk.PP) (h : Tk.Ok ps) : Tk.Ok (impl_behind.sel s what ps) := h.filter _

end Go.Proofs.Ytlkbphhmahipdaa.P
namespace Go.Proofs.Ytlkbphhmahipdaa.P
open Go.RowKit Go.Proofs.YtlkbphhmahipdaaW.PrintWords Go.Proofs.YtlkbphhmahipdaaW.PrintLast Go.Proofs.YtlkbphhmahipdaaW.PrintMore
attribute [local go_sem] max2_int min2_int max_two min_two max_three min_three max_four min_four   -- for this text's walks alone
set_option linter.unusedVariables false
set_option linter.unusedSimpArgs false

/-! ### spec_taSay: function 77, by hand -/
-- IMPORT Derived.Test.YtlkbphhmahipdaaTk
-- IMPORT Derived.BigQuiet
theorem spec_taTold.told (s : Bool) (p : Tk.PP) (h : (1 ≤ p.2.1 ∧ p.2.1 ≤ 40) ∧ (1 ≤ p.2.2 ∧ p.2.2 ≤ 40)) : spec_taTold.f (Tk.wh s) (Tk.vl p) = some (Tk.tv s (Tk.vl p)) := by
  have hb := Tk.tv_bd s p h
  cases s with
  | true =>
    have e : wrap64 (rd (Tk.vl p) 0 + rd (Tk.vl p) 1) = rd (Tk.vl p) 0 + rd (Tk.vl p) 1 := by simp [Tk.tv] at hb; unfold wrap64; omega
    simp [spec_taTold.f, Tk.vl, Tk.wh, Tk.tv] at e ⊢
    exact e
  | false =>
    have e : wrap64 (rd (Tk.vl p) 0 * rd (Tk.vl p) 1) = rd (Tk.vl p) 0 * rd (Tk.vl p) 1 := by simp [Tk.tv] at hb; unfold wrap64; omega
    simp [spec_taTold.f, Tk.vl, Tk.wh, Tk.tv] at e ⊢
    exact e
/-- How many of some have each number. -/
def spec_taCounts.cn (N : Nat) (s : Bool) (xs : List (List Int)) : List Int := (List.range N).map fun v : Nat => (Tk.cnt s xs (v : Int) : Int)
theorem spec_taCounts.cn_len (N : Nat) (s : Bool) (xs : List (List Int)) : (spec_taCounts.cn N s xs).length = N := by simp [spec_taCounts.cn]
theorem spec_taCounts.cn_at (N : Nat) (s : Bool) (xs : List (List Int)) (v : Int) (h : 0 ≤ v ∧ v < (N : Int)) : rd (spec_taCounts.cn N s xs) v = (Tk.cnt s xs v : Int) := by
  obtain ⟨n, rfl⟩ := Int.eq_ofNat_of_zero_le h.1
  have : n < N := by omega
  simp [rd, spec_taCounts.cn, List.getD_eq_getElem?_getD, this]
theorem spec_taCounts.cn_set (N : Nat) (s : Bool) (xs : List (List Int)) (x : List Int) (h : 0 ≤ Tk.tv s x ∧ Tk.tv s x < (N : Int)) : (spec_taCounts.cn N s xs).set (Tk.tv s x).toNat ((Tk.cnt s xs (Tk.tv s x) : Int) + 1) = spec_taCounts.cn N s (xs ++ [x]) := by
  apply List.ext_getElem?
  intro i
  rw [List.getElem?_set]
  by_cases e : (Tk.tv s x).toNat = i
  · rw [if_pos e, if_pos (by rw [spec_taCounts.cn_len]; omega)]
    have h1 : (i : Int) = Tk.tv s x := by omega
    have h2 : i < N := by omega
    simp [spec_taCounts.cn, h2, Tk.cnt, List.countP_append, h1]
  · rw [if_neg e]
    have h1 : ¬ Tk.tv s x = (i : Int) := by omega
    by_cases h2 : i < N
    · simp [spec_taCounts.cn, h2, Tk.cnt, List.countP_append, h1]
    · simp [spec_taCounts.cn, h2]
theorem spec_taCounts.cn_zero (N : Nat) (s : Bool) : List.replicate N (0 : Int) = spec_taCounts.cn N s [] := by
  apply List.ext_getElem?
  intro i
  by_cases h : i < N
  · simp [spec_taCounts.cn, h, Tk.cnt]
  · simp [spec_taCounts.cn, h]
def spec_taCounts.cl (s : Bool) (xs : List (List Int)) : List Int := spec_taCounts.cn 1601 s xs
theorem spec_taCounts.cl_len (s : Bool) (xs : List (List Int)) : (spec_taCounts.cl s xs).length = 1601 := spec_taCounts.cn_len 1601 s xs
theorem spec_taCounts.cl_at (s : Bool) (xs : List (List Int)) (v : Int) (h : 0 ≤ v ∧ v < 1601) : rd (spec_taCounts.cl s xs) v = (Tk.cnt s xs v : Int) := spec_taCounts.cn_at 1601 s xs v h
theorem spec_taCounts.cl_set (s : Bool) (xs : List (List Int)) (x : List Int) (h : 0 ≤ Tk.tv s x ∧ Tk.tv s x < 1601) : (spec_taCounts.cl s xs).set (Tk.tv s x).toNat ((Tk.cnt s xs (Tk.tv s x) : Int) + 1) = spec_taCounts.cl s (xs ++ [x]) := spec_taCounts.cn_set 1601 s xs x h
theorem spec_taCounts.l0_told (s : Bool) (ps : List Tk.PP) (hok : Tk.Ok ps) (c : Nat → List Int) (hlen : ∀ i, (c i).length = 1601)
    (hst : ∀ i, (hi : i < ps.length) → (0 ≤ rd (c i) (Tk.tv s (Tk.vl ps[i])) ∧ rd (c i) (Tk.tv s (Tk.vl ps[i])) ≤ 2000) ∧ (c i).set (Tk.tv s (Tk.vl ps[i])).toNat (rd (c i) (Tk.tv s (Tk.vl ps[i])) + 1) = c (i + 1)) (d : Nat) : ∀ i, i ≤ ps.length → ps.length - i ≤ d → spec_taCounts.l0 (d + 1) (Tk.wh s) (c i) (Tk.vals ps) (ps.length : Int) (i : Int) = some (c ps.length) := by
  have hl := Tk.vals_len ps
  have hn := hok.1
  induction d with
  | zero =>
    intro i h1 h2
    obtain rfl : i = ps.length := by omega
    rw [spec_taCounts.l0, if_neg (by omega)]
  | succ d ih =>
    intro i h1 h2
    by_cases hi : i < ps.length
    · have hbd := hok.2 ps[i] (List.getElem_mem hi)
      have htv := Tk.tv_bd s ps[i] hbd
      have hg : (Tk.vals ps).getD (i : Int).toNat [] = Tk.vl ps[i] := by simp [Tk.vals, List.getD_eq_getElem?_getD, hi]
      have htd : spec_taTold.f (Tk.wh s) ((Tk.vals ps).getD (i : Int).toNat []) = some (Tk.tv s (Tk.vl ps[i])) := by rw [hg]; exact spec_taTold.told s ps[i] hbd
      obtain ⟨hr, hs⟩ := hst i hi
      have e1 : wrap64 ((i : Int) + 1) = ((i + 1 : Nat) : Int) := by unfold wrap64; omega
      have e2 : wrap64 (rd (c i) (Tk.tv s (Tk.vl ps[i])) + 1) = rd (c i) (Tk.tv s (Tk.vl ps[i])) + 1 := by unfold wrap64; omega
      have hlc := hlen i
      rw [spec_taCounts.l0, if_pos (by omega), if_pos (by omega), if_pos (by omega)]
      refine Option.bind_eq_some_iff.2 ⟨Tk.tv s (Tk.vl ps[i]), htd, ?_⟩
      rw [if_pos (by omega), if_pos (by omega), e1, e2, hs]
      exact ih (i + 1) (by omega) (by omega)
    · obtain rfl : i = ps.length := by omega
      rw [spec_taCounts.l0, if_neg (by omega)]
theorem spec_taCounts.told (s : Bool) (ps : List Tk.PP) (hok : Tk.Ok ps) : spec_taCounts.f (ps.length + 1) (Tk.vals ps) (Tk.wh s) = some (spec_taCounts.cl s (Tk.vals ps)) := by
  have hn := hok.1
  have key := spec_taCounts.l0_told s ps hok (fun i => spec_taCounts.cl s (Tk.vals (ps.take i))) (fun i => spec_taCounts.cl_len _ _) (fun i hi => by
    have htv := Tk.tv_bd s ps[i] (hok.2 ps[i] (List.getElem_mem hi))
    have hc := Tk.cnt_le s (Tk.vals (ps.take i)) (Tk.tv s (Tk.vl ps[i]))
    rw [Tk.vals_len, List.length_take] at hc
    have ht : Tk.vals (ps.take (i + 1)) = Tk.vals (ps.take i) ++ [Tk.vl ps[i]] := by unfold Tk.vals; rw [List.take_succ_eq_append_getElem hi, List.map_append]; rfl
    have ha := spec_taCounts.cl_at s (Tk.vals (ps.take i)) (Tk.tv s (Tk.vl ps[i])) (by omega)
    have hs := spec_taCounts.cl_set s (Tk.vals (ps.take i)) (Tk.vl ps[i]) (by omega)
    rw [ha, ht]
    exact ⟨by omega, hs⟩) ps.length 0 (Nat.zero_le _) (Nat.le_refl _)
  rw [List.take_length, List.take_zero] at key
  have hz : spec_taCounts.cl s (Tk.vals []) = List.replicate 1601 0 := (spec_taCounts.cn_zero 1601 s).symm
  rw [hz] at key
  unfold spec_taCounts.f
  rw [if_pos (by omega), Tk.vals_len]
  exact key
/-- For each number whether it is told where the other one might know. -/
def spec_taSay.tb (N : Nat) (s : Bool) (all xs : List (List Int)) : List Bool := (List.range N).map fun v : Nat => Tk.might s all xs (v : Int)
theorem spec_taSay.tb_len (N : Nat) (s : Bool) (all xs : List (List Int)) : (spec_taSay.tb N s all xs).length = N := by simp [spec_taSay.tb]
theorem spec_taSay.tb_at (N : Nat) (s : Bool) (all xs : List (List Int)) (v : Int) (h : 0 ≤ v ∧ v < (N : Int)) : rdOf false (spec_taSay.tb N s all xs) v = Tk.might s all xs v := by
  obtain ⟨n, rfl⟩ := Int.eq_ofNat_of_zero_le h.1
  have : n < N := by omega
  simp [rdOf, spec_taSay.tb, List.getD_eq_getElem?_getD, this]
theorem spec_taSay.tb_zero (N : Nat) (s : Bool) (all : List (List Int)) : List.replicate N false = spec_taSay.tb N s all [] := by
  apply List.ext_getElem?
  intro i
  by_cases h : i < N
  · simp [spec_taSay.tb, h, Tk.might]
  · simp [spec_taSay.tb, h]
theorem spec_taSay.might_app (s : Bool) (all xs : List (List Int)) (x : List Int) (v : Int) : Tk.might s all (xs ++ [x]) v = (Tk.might s all xs v || (decide (Tk.cnt (!s) all (Tk.tv (!s) x) = 1) && decide (Tk.tv s x = v))) := by simp [Tk.might]
theorem spec_taSay.tb_set (N : Nat) (s : Bool) (all xs : List (List Int)) (x : List Int) (h : 0 ≤ Tk.tv s x ∧ Tk.tv s x < (N : Int)) (h1 : Tk.cnt (!s) all (Tk.tv (!s) x) = 1) : (spec_taSay.tb N s all xs).set (Tk.tv s x).toNat true = spec_taSay.tb N s all (xs ++ [x]) := by
  apply List.ext_getElem?
  intro i
  rw [List.getElem?_set]
  by_cases e : (Tk.tv s x).toNat = i
  · rw [if_pos e, if_pos (by rw [spec_taSay.tb_len]; omega)]
    have h3 : Tk.tv s x = (i : Int) := by omega
    have h2 : i < N := by omega
    simp [spec_taSay.tb, h2, spec_taSay.might_app, h1, h3]
  · rw [if_neg e]
    have h3 : ¬ Tk.tv s x = (i : Int) := by omega
    by_cases h2 : i < N
    · simp [spec_taSay.tb, h2, spec_taSay.might_app, h3]
    · simp [spec_taSay.tb, h2]
theorem spec_taSay.tb_same (N : Nat) (s : Bool) (all xs : List (List Int)) (x : List Int) (h1 : Tk.cnt (!s) all (Tk.tv (!s) x) ≠ 1) : spec_taSay.tb N s all xs = spec_taSay.tb N s all (xs ++ [x]) := by
  unfold spec_taSay.tb
  apply List.map_congr_left
  intro v _
  rw [spec_taSay.might_app]
  simp [h1]
theorem spec_taSay.cnt_pos (s : Bool) (ps : List Tk.PP) (p : Tk.PP) (hp : p ∈ ps) : 1 ≤ Tk.cnt s (Tk.vals ps) (Tk.tv s (Tk.vl p)) := by
  unfold Tk.cnt
  refine List.countP_pos_iff.2 ⟨Tk.vl p, List.mem_map_of_mem hp, by simp⟩
set_option maxHeartbeats 8000000 in
set_option maxRecDepth 100000 in
theorem spec_taSay.has (s : Bool) (what : Int) (hw : what = 45 ∨ what = 43 ∨ what = 33) (base lo : Nat) (v : Value) (ps : List Tk.PP) (w : World) (hH : Tk.Has 36 3 w base lo v ps) (hok : Tk.Ok ps) :
    Calls Try.prog 77 #[v, .string (Tk.wh s), .int .u8 what] w fun e w' => ∃ v', e = .returned v' ∧ Tk.Has 36 3 w' w.heap.size lo v' (impl_behind.sel s what ps) ∧ Below w.heap.size w w' := by
  obtain ⟨A, c, rfl, hc, hmax⟩ := hH.slice
  have hn := hok.1
  have T109 : Aside0 (∀ s' W, Below w.heap.size w W → Calls Try.prog 109 #[.slice A ps.length c, .string (Tk.wh s')] W fun e w' => ∃ A' c', e = .returned (.slice A' 1601 c') ∧ Aside0 (Kd.C (Kd.int .i64) w' A' 1601 (spec_taCounts.cl s' (Tk.vals ps)) ∧ Below W.heap.size W w')) := ⟨fun s' W hW => by
    have h1 := spec_taCounts.calls (ps.length + 1) A c (Tk.vals ps) (Tk.wh s') _ W (hH.below hW).C (by rw [Tk.vals_len]; exact hc) (spec_taCounts.told s' ps hok)
    rw [Tk.vals_len] at h1
    refine h1.mono fun e w' he => ?_
    obtain ⟨u, rfl, hR, hb⟩ := he
    obtain ⟨A', c', rfl, _, hC⟩ := Kd.R_reads hR
    rw [spec_taCounts.cl_len] at hC ⊢
    exact ⟨A', c', rfl, ⟨hC, hb⟩⟩⟩
  have T103 : Aside0 (∀ (s' : Bool) (p : Tk.PP) W, p ∈ ps → Tk.Inn 3 W lo ps → Calls Try.prog 103 #[.string (Tk.wh s'), .slice (some ⟨p.1, 0, none⟩) 2 2] W fun e w' => e = .returned (.int .i64 (Tk.tv s' (Tk.vl p))) ∧ ∃ j, w' = W.drewN j) := ⟨fun s' p W hp hI => by
    have := spec_taTold.calls (Tk.wh s') (some ⟨p.1, 0, none⟩) 2 (Tk.vl p) (Tk.tv s' (Tk.vl p)) W (hI.C p hp) (by simp [Tk.vl]) (spec_taTold.told s' p (hok.2 p hp))
    have hl2 : (Tk.vl p).length = 2 := rfl
    rw [hl2] at this
    exact this.mono fun e w' h => ⟨h.1, h.2.out⟩⟩
  have HH := Aside0.mk hH
  have HO := Aside0.mk hok
  clear hH hok
  have T109s := Aside0.mk (T109.out s)
  have T109o := Aside0.mk (T109.out (!s))
  clear T109
  cases s with
  | true =>
    rw [show Tk.wh true = ⟨#[115]⟩ from rfl] at T109s ⊢
    rw [show Tk.wh (!true) = ⟨#[112]⟩ from rfl] at T109o
    go_enter Try.func77, Try.ntmps77
    go_wp2_with (first
      | (go_at_call 109; refine (T109s.out _ (Below.refl _ _)).mono ?_; rintro e w3 ⟨A8, c8, rfl, r3⟩; clear T109s)
      | (go_at_call 109; refine (T109o.out _ r3.out.2).mono ?_; rintro e w4 ⟨A9, c9, rfl, r4⟩; clear T109o)
      | (at_make; refine Kd.R_make Kd.bool (w0 := w4) _ 4 rfl (N := 27) rfl 99 _ _ rfl 1601 rfl rfl Try.underlying99 (.bool false) 1 (by kernel_rfl) rfl (by decide) (by omega) false (ok := fun _ => True) (okp := fun _ => True) rfl (fun _ hk => hk) trivial (by omega) (by omega) (Below.refl _ _) (Nat.le_refl _) ?_; intro v5 w5 ho5 hb5 hg5 hn5; have R5 := Aside0.mk (show _ ∧ _ from ⟨ho5, hb5⟩); clear ho5 hb5 hg5 hn5))
    obtain ⟨g, cap, e5, hg1, hg2, _⟩ := Kd.R_form R5.out.1 (by simp)
    rw [List.length_replicate] at e5
    subst e5
    obtain ⟨ad8, rfl, _⟩ := Kd.at_int r3.out.1 0 (by omega) (by omega)
    obtain ⟨ad9, rfl, _⟩ := Kd.at_int r4.out.1 0 (by omega) (by omega)
    have hb4 : Below w.heap.size w w4 := below_step r3.out.2 r4.out.2
    have HB4 := Aside0.mk hb4
    have CO : Aside0 (∀ W x, Below w4.heap.size w4 W → 0 ≤ x → x < 1601 → W.cell? (ad9.add x.toNat) = some (.int .i64 (Tk.cnt (!true) (Tk.vals ps) x : Int)) ∧ W.cell? (ad8.add x.toNat) = some (.int .i64 (Tk.cnt true (Tk.vals ps) x : Int))) := ⟨fun W x hW h0 h1 => by
      obtain ⟨a9, e9, h9⟩ := Kd.at_int r4.out.1 x h0 h1
      obtain ⟨a8, e8, h8⟩ := Kd.at_int r3.out.1 x h0 h1
      injection e9 with e9
      injection e8 with e8
      subst e9 e8
      rw [spec_taCounts.cl_at _ _ _ ⟨h0, h1⟩] at h9 h8
      exact ⟨pw_cell_below hW h9, pw_cell_below hW (pw_cell_below r4.out.2 h8)⟩⟩
    have HS0 := Aside0.mk (show Kd.R Kd.bool 4 w5 w4.heap.size (fun _ => True) (.slice (some ⟨g, 0, none⟩) 1601 cap) (spec_taSay.tb 1601 true (Tk.vals ps) (Tk.vals (ps.take 0))) ∧ Below w4.heap.size w4 w5 from ⟨by
      have := R5.out.1
      rw [spec_taSay.tb_zero (1601 : Int).toNat true (Tk.vals ps)] at this
      exact this, R5.out.2⟩)
    clear hb4 hg1 hg2 R5 r3 r4
    go_loopg [30] ps.length (fun gg s30 wr => ∃ k : Nat, s30 = .int .i64 (k : Int) ∧ k ≤ ps.length ∧ ps.length - k ≤ gg ∧ Aside0 (Kd.R Kd.bool 4 wr w4.heap.size (fun _ => True) (.slice (some ⟨g, 0, none⟩) 1601 cap) (spec_taSay.tb 1601 true (Tk.vals ps) (Tk.vals (ps.take k))) ∧ Below w4.heap.size w4 wr))
    case atStart => exact ⟨0, rfl, Nat.zero_le _, by omega, HS0⟩
    case round =>
      obtain ⟨k, rfl, hk, hgg, HS⟩ := hrel
      clear HS0
      by_cases hi : k < ps.length
      · have hkz : (k : Int) < (ps.length : Int) := by omega
        have hww := below_then HB4.out HB4.out.size HS.out.2
        have hH := HH.out.below hww
        obtain ⟨g0, cap0, ev, hcell⟩ := hH.at_ k hi
        obtain ⟨rfl, rfl⟩ : A = some ⟨g0, 0, none⟩ ∧ c = cap0 := by injection ev with e1 e2 e3; exact ⟨e1, e3⟩
        have hpm : ps[k] ∈ ps := List.getElem_mem hi
        have hbdo := Tk.tv_bd (!true) ps[k] (HO.out.2 _ hpm)
        have hbds := Tk.tv_bd true ps[k] (HO.out.2 _ hpm)
        have hco := (CO.out wr (Tk.tv (!true) (Tk.vl ps[k])) HS.out.2 (by omega) (by omega)).1
        obtain ⟨hm1, hm2⟩ := Kd.R_celln false HS.out.1 (Tk.tv true (Tk.vl ps[k])) (by omega) (by omega)
        have hput := Kd.R_putg HS.out.1 (Tk.tv true (Tk.vl ps[k])) true
        have ht : Tk.vals (ps.take (k + 1)) = Tk.vals (ps.take k) ++ [Tk.vl ps[k]] := by unfold Tk.vals; rw [List.take_succ_eq_append_getElem hi, List.map_append]; rfl
        have HC1 := Aside0.mk (T103.out (!true) ps[k] wr hpm hH.inn)
        have HC2 := Aside0.mk (fun j => T103.out true ps[k] (wr.drewN j) hpm (hH.inn.below (pw_below_drewN (Below.refl _ _) j)))
        have hx0 : 0 ≤ Tk.tv (!true) (Tk.vl ps[k]) := by omega
        have hx1 : Tk.tv (!true) (Tk.vl ps[k]) < 1601 := by omega
        have hy0 : 0 ≤ Tk.tv true (Tk.vl ps[k]) := by omega
        have hy1 : Tk.tv true (Tk.vl ps[k]) < 1601 := by omega
        have HNX := Aside0.mk (show (Tk.cnt (!true) (Tk.vals ps) (Tk.tv (!true) (Tk.vl ps[k])) = 1 → Kd.R Kd.bool 4 (wr.setCell ⟨g, (Tk.tv true (Tk.vl ps[k])).toNat, none⟩ (.bool true)) w4.heap.size (fun _ => True) (.slice (some ⟨g, 0, none⟩) 1601 cap) (spec_taSay.tb 1601 true (Tk.vals ps) (Tk.vals (ps.take (k + 1)))) ∧ Below w4.heap.size w4 (wr.setCell ⟨g, (Tk.tv true (Tk.vl ps[k])).toNat, none⟩ (.bool true))) ∧ (Tk.cnt (!true) (Tk.vals ps) (Tk.tv (!true) (Tk.vl ps[k])) ≠ 1 → Kd.R Kd.bool 4 wr w4.heap.size (fun _ => True) (.slice (some ⟨g, 0, none⟩) 1601 cap) (spec_taSay.tb 1601 true (Tk.vals ps) (Tk.vals (ps.take (k + 1)))) ∧ Below w4.heap.size w4 wr) from ⟨fun h1 => ⟨by rw [ht, ← spec_taSay.tb_set 1601 true (Tk.vals ps) (Tk.vals (ps.take k)) (Tk.vl ps[k]) (by omega) h1]; exact hput.1, below_set HS.out.2 (Kd.R_base HS.out.1 g (by simp [Value.ownBlock]))⟩, fun h1 => ⟨by rw [ht, ← spec_taSay.tb_same 1601 true (Tk.vals ps) (Tk.vals (ps.take k)) (Tk.vl ps[k]) h1]; exact HS.out.1, HS.out.2⟩⟩)
        clear hput ht hpm hbdo hbds hH ev hww
        rw [show Tk.wh (!true) = ⟨#[112]⟩ from rfl] at HC1
        rw [show Tk.wh true = ⟨#[115]⟩ from rfl] at HC2
        generalize Tk.cnt (!true) (Tk.vals ps) (Tk.tv (!true) (Tk.vl ps[k])) = d at hco HNX
        generalize Tk.tv (!true) (Tk.vl ps[k]) = x at hco HC1 hx0 hx1
        generalize Tk.tv true (Tk.vl ps[k]) = y at HC2 HNX hm1 hm2 hy0 hy1
        unfold Tk.cv at hcell
        by_cases hd : d = 1
        · subst hd
          have HN := Aside0.mk (HNX.out.1 rfl)
          clear HNX
          go_wp2_with (first
            | (go_at_call 103; refine HC1.out.mono ?_; rintro e w7 ⟨rfl, j7, rfl⟩; clear HC1)
            | (go_at_call 103; refine (HC2.out _).mono ?_; rintro e w8 ⟨rfl, j8, rfl⟩))
          go_roundg (ps.length - (k + 1))
          case measure => omega
          case rel => exact ⟨k + 1, by go_num, by omega, Nat.le_refl _, ⟨Kd.R_drewN HN.out.1 (j7 + j8), pw_below_drewN HN.out.2 (j7 + j8)⟩⟩
        · have hdz : ¬ (d : Int) = 1 := by omega
          have HN := Aside0.mk (HNX.out.2 hd)
          clear HNX
          go_wp2_with (go_at_call 103; refine HC1.out.mono ?_; rintro e w7 ⟨rfl, j7, rfl⟩; clear HC1)
          go_roundg (ps.length - (k + 1))
          case measure => omega
          case rel => exact ⟨k + 1, by go_num, by omega, Nat.le_refl _, ⟨Kd.R_drewN HN.out.1 _, pw_below_drewN HN.out.2 _⟩⟩
      · have hkz : ¬ (k : Int) < (ps.length : Int) := by omega
        obtain rfl : k = ps.length := by omega
        go_wp2
        obtain ⟨w6, e6⟩ : ∃ w6, w6 = wr := ⟨_, rfl⟩
        subst e6
        have h0 : (Tk.KP.R 36 w6 w6.heap.size (fun _ => True) (.slice none 0 0) ([] : List Tk.PP)) := Kd.R_nil _ _ _ _ _
        have HM := Aside0.mk (show (∀ x, 0 ≤ x → x < 1601 → w6.cell? ⟨g, x.toNat, none⟩ = some (.bool (Tk.might true (Tk.vals ps) (Tk.vals ps) x))) ∧ Below w4.heap.size w4 w6 from ⟨fun x h0 h1 => by
          have h2 := HS.out.1
          rw [List.take_length] at h2
          have h3 := (Kd.R_celln false h2 x h0 (by omega)).1
          rwa [spec_taSay.tb_at _ _ _ _ _ ⟨h0, h1⟩] at h3, HS.out.2⟩)
        clear HS
        go_loopg [13, 49] ps.length (fun gg s13 s49 w' => ∃ (k : Nat) (qs : List Tk.PP), s49 = .int .i64 (k : Int) ∧ k ≤ ps.length ∧ ps.length - k ≤ gg ∧ Aside0 (qs = (ps.take k).filter (fun p => Tk.keepSay true what (Tk.vals ps) (Tk.vl p)) ∧ Tk.KP.R 36 w' w6.heap.size (fun _ => True) s13 qs ∧ Below w6.heap.size w6 w' ∧ qs.length ≤ k))
        case atStart => exact ⟨0, [], rfl, Nat.zero_le _, by omega, ⟨rfl, h0, Below.refl _ _, Nat.le_refl _⟩⟩
        case round =>
          obtain ⟨k, qs, rfl, hk, hgg, HQ⟩ := hrel
          clear h0
          by_cases hi : k < ps.length
          · have hkz : (k : Int) < (ps.length : Int) := by omega
            have hb6 := below_step HM.out.2 HQ.out.2.2.1
            have hww := below_then HB4.out HB4.out.size hb6
            have hH := HH.out.below hww
            obtain ⟨g0, cap0, ev, hcell⟩ := hH.at_ k hi
            obtain ⟨rfl, rfl⟩ : A = some ⟨g0, 0, none⟩ ∧ c = cap0 := by injection ev with e1 e2 e3; exact ⟨e1, e3⟩
            have hpm : ps[k] ∈ ps := List.getElem_mem hi
            have hbds := Tk.tv_bd true ps[k] (HO.out.2 _ hpm)
            have hco := (CO.out _ (Tk.tv true (Tk.vl ps[k])) hb6 (by omega) (by omega)).2
            have hcm := pw_cell_below HQ.out.2.2.1 (HM.out.1 (Tk.tv true (Tk.vl ps[k])) (by omega) (by omega))
            have HC2 := Aside0.mk (T103.out true ps[k] _ hpm hH.inn)
            have hpos := spec_taSay.cnt_pos true ps ps[k] hpm
            have hy0 : 0 ≤ Tk.tv true (Tk.vl ps[k]) := by omega
            have hy1 : Tk.tv true (Tk.vl ps[k]) < 1601 := by omega
            have HKY := Aside0.mk (show (Tk.keepSay true what (Tk.vals ps) (Tk.vl ps[k]) = true → qs ++ [ps[k]] = (ps.take (k + 1)).filter (fun p => Tk.keepSay true what (Tk.vals ps) (Tk.vl p))) ∧ (Tk.keepSay true what (Tk.vals ps) (Tk.vl ps[k]) = false → qs = (ps.take (k + 1)).filter (fun p => Tk.keepSay true what (Tk.vals ps) (Tk.vl p))) from ⟨fun h => by rw [HQ.out.1, List.take_succ_eq_append_getElem hi, List.filter_append]; simp [h], fun h => by rw [HQ.out.1, List.take_succ_eq_append_getElem hi, List.filter_append]; simp [h]⟩)
            have EK : ∀ what, Tk.keepSay true what (Tk.vals ps) (Tk.vl ps[k]) = if what = 33 then !(Tk.might true (Tk.vals ps) (Tk.vals ps) (Tk.tv true (Tk.vl ps[k]))) else decide (Tk.cnt true (Tk.vals ps) (Tk.tv true (Tk.vl ps[k])) = 1) == decide (what = 43) := fun _ => rfl
            rw [EK] at HKY
            clear EK hpm hbds hH ev hww hb6
            rw [show Tk.wh true = ⟨#[115]⟩ from rfl] at HC2
            generalize Tk.cnt true (Tk.vals ps) (Tk.tv true (Tk.vl ps[k])) = d at hco HKY hpos
            generalize Tk.might true (Tk.vals ps) (Tk.vals ps) (Tk.tv true (Tk.vl ps[k])) = b at hcm HKY
            generalize Tk.tv true (Tk.vl ps[k]) = y at HC2 hco hcm hy0 hy1
            unfold Tk.cv at hcell
            rcases hw with rfl | rfl | rfl
            · by_cases hd : (1 : Int) < (d : Int)
              · go_wp2_with (first
                  | (go_at_call 103; refine HC2.out.mono ?_; rintro e w8 ⟨rfl, j8, rfl⟩; clear HC2)
                  | ((with_reducible refine gate_builtin (b := .append) (xs := #[.tmp 87, .tmp 89]) rfl ?_); at_builtin; refine Kd.R_append Tk.KP (w0 := w6) w6.heap.size rfl (.tmp 87) (.tmp 89) 25 36 (.slice none 0 0) 24 rfl Try.underlying25 (by kernel_rfl) rfl (by decide) (by omega) u13 qs ps[k] [.slice (some ⟨ps[k].1, 0, none⟩) 2 2] (fun _ => True) (fun _ => False) rfl (by first | (go_simp; done) | (go_simp; rfl)) rfl (fun _ hk => hk.elim) (fun _ _ => trivial) (Kd.R_drewN HQ.out.2.1 _) (pw_below_drewN HQ.out.2.2.1 _) HQ.out.2.2.1.size (by have := HQ.out.2.2.2; omega) ?_; intro v9 w9 ho hb hg hat; have HO9 := Aside0.mk (show _ ∧ _ from ⟨ho, hb⟩); clear ho hb hg hat))
                go_roundg (ps.length - (k + 1))
                case measure => omega
                case rel => exact ⟨k + 1, qs ++ [ps[k]], by go_num, by omega, Nat.le_refl _, ⟨HKY.out.1 (by simp; omega), HO9.out.1, HO9.out.2, by rw [List.length_append, List.length_singleton]; have := HQ.out.2.2.2; omega⟩⟩
              · go_wp2_with (go_at_call 103; refine HC2.out.mono ?_; rintro e w8 ⟨rfl, j8, rfl⟩; clear HC2)
                go_roundg (ps.length - (k + 1))
                case measure => omega
                case rel => exact ⟨k + 1, qs, by go_num, by omega, Nat.le_refl _, ⟨HKY.out.2 (by simp; omega), Kd.R_drewN HQ.out.2.1 _, pw_below_drewN HQ.out.2.2.1 _, by have := HQ.out.2.2.2; omega⟩⟩
            · by_cases hd : (d : Int) = 1
              · go_wp2_with (first
                  | (go_at_call 103; refine HC2.out.mono ?_; rintro e w8 ⟨rfl, j8, rfl⟩; clear HC2)
                  | ((with_reducible refine gate_builtin (b := .append) (xs := #[.tmp 87, .tmp 89]) rfl ?_); at_builtin; refine Kd.R_append Tk.KP (w0 := w6) w6.heap.size rfl (.tmp 87) (.tmp 89) 25 36 (.slice none 0 0) 24 rfl Try.underlying25 (by kernel_rfl) rfl (by decide) (by omega) u13 qs ps[k] [.slice (some ⟨ps[k].1, 0, none⟩) 2 2] (fun _ => True) (fun _ => False) rfl (by first | (go_simp; done) | (go_simp; rfl)) rfl (fun _ hk => hk.elim) (fun _ _ => trivial) (Kd.R_drewN HQ.out.2.1 _) (pw_below_drewN HQ.out.2.2.1 _) HQ.out.2.2.1.size (by have := HQ.out.2.2.2; omega) ?_; intro v9 w9 ho hb hg hat; have HO9 := Aside0.mk (show _ ∧ _ from ⟨ho, hb⟩); clear ho hb hg hat))
                go_roundg (ps.length - (k + 1))
                case measure => omega
                case rel => exact ⟨k + 1, qs ++ [ps[k]], by go_num, by omega, Nat.le_refl _, ⟨HKY.out.1 (by simp; omega), HO9.out.1, HO9.out.2, by rw [List.length_append, List.length_singleton]; have := HQ.out.2.2.2; omega⟩⟩
              · go_wp2_with (go_at_call 103; refine HC2.out.mono ?_; rintro e w8 ⟨rfl, j8, rfl⟩; clear HC2)
                go_roundg (ps.length - (k + 1))
                case measure => omega
                case rel => exact ⟨k + 1, qs, by go_num, by omega, Nat.le_refl _, ⟨HKY.out.2 (by simp; omega), Kd.R_drewN HQ.out.2.1 _, pw_below_drewN HQ.out.2.2.1 _, by have := HQ.out.2.2.2; omega⟩⟩
            · cases b with
              | false =>
                go_wp2_with (first
                  | (go_at_call 103; refine HC2.out.mono ?_; rintro e w8 ⟨rfl, j8, rfl⟩; clear HC2)
                  | ((with_reducible refine gate_builtin (b := .append) (xs := #[.tmp 87, .tmp 89]) rfl ?_); at_builtin; refine Kd.R_append Tk.KP (w0 := w6) w6.heap.size rfl (.tmp 87) (.tmp 89) 25 36 (.slice none 0 0) 24 rfl Try.underlying25 (by kernel_rfl) rfl (by decide) (by omega) u13 qs ps[k] [.slice (some ⟨ps[k].1, 0, none⟩) 2 2] (fun _ => True) (fun _ => False) rfl (by first | (go_simp; done) | (go_simp; rfl)) rfl (fun _ hk => hk.elim) (fun _ _ => trivial) (Kd.R_drewN HQ.out.2.1 _) (pw_below_drewN HQ.out.2.2.1 _) HQ.out.2.2.1.size (by have := HQ.out.2.2.2; omega) ?_; intro v9 w9 ho hb hg hat; have HO9 := Aside0.mk (show _ ∧ _ from ⟨ho, hb⟩); clear ho hb hg hat))
                go_roundg (ps.length - (k + 1))
                case measure => omega
                case rel => exact ⟨k + 1, qs ++ [ps[k]], by go_num, by omega, Nat.le_refl _, ⟨HKY.out.1 (by simp), HO9.out.1, HO9.out.2, by rw [List.length_append, List.length_singleton]; have := HQ.out.2.2.2; omega⟩⟩
              | true =>
                go_wp2_with (go_at_call 103; refine HC2.out.mono ?_; rintro e w8 ⟨rfl, j8, rfl⟩; clear HC2)
                go_roundg (ps.length - (k + 1))
                case measure => omega
                case rel => exact ⟨k + 1, qs, by go_num, by omega, Nat.le_refl _, ⟨HKY.out.2 (by simp), Kd.R_drewN HQ.out.2.1 _, pw_below_drewN HQ.out.2.2.1 _, by have := HQ.out.2.2.2; omega⟩⟩
          · have hkz : ¬ (k : Int) < (ps.length : Int) := by omega
            obtain rfl : k = ps.length := by omega
            go_wp2
            go_ret
            obtain ⟨hq, hR, hb, _⟩ := HQ.out
            rw [List.take_length] at hq
            have hq' : qs = impl_behind.sel true what ps := hq
            subst hq'
            have hb6 := below_step HM.out.2 hb
            have hin := (HH.out.below (below_then HB4.out HB4.out.size HM.out.2)).inn
            have hs : ∀ p ∈ impl_behind.sel true what ps, p ∈ ps := fun p hp => (List.mem_filter.1 hp).1
            refine ⟨_, rfl, Tk.Has.lower (base := w6.heap.size) (lo := lo) ⟨Tk.row_of hR, (hin.below hb).sub hs, HH.out.nod.sublist ((List.filter_sublist (l := ps)).map _), fun p hp e => ?_⟩ (Nat.le_trans HB4.out.size HM.out.2.size) (Nat.le_refl _), below_then HB4.out HB4.out.size hb6⟩
            have h1 := hin.lt p (hs p hp)
            have h2 := Kd.R_base hR p.1 e
            omega
  | false =>
    rw [show Tk.wh false = ⟨#[112]⟩ from rfl] at T109s ⊢
    rw [show Tk.wh (!false) = ⟨#[115]⟩ from rfl] at T109o
    go_enter Try.func77, Try.ntmps77
    go_wp2_with (first
      | (go_at_call 109; refine (T109s.out _ (Below.refl _ _)).mono ?_; rintro e w3 ⟨A8, c8, rfl, r3⟩; clear T109s)
      | (go_at_call 109; refine (T109o.out _ r3.out.2).mono ?_; rintro e w4 ⟨A9, c9, rfl, r4⟩; clear T109o)
      | (at_make; refine Kd.R_make Kd.bool (w0 := w4) _ 4 rfl (N := 27) rfl 99 _ _ rfl 1601 rfl rfl Try.underlying99 (.bool false) 1 (by kernel_rfl) rfl (by decide) (by omega) false (ok := fun _ => True) (okp := fun _ => True) rfl (fun _ hk => hk) trivial (by omega) (by omega) (Below.refl _ _) (Nat.le_refl _) ?_; intro v5 w5 ho5 hb5 hg5 hn5; have R5 := Aside0.mk (show _ ∧ _ from ⟨ho5, hb5⟩); clear ho5 hb5 hg5 hn5))
    obtain ⟨g, cap, e5, hg1, hg2, _⟩ := Kd.R_form R5.out.1 (by simp)
    rw [List.length_replicate] at e5
    subst e5
    obtain ⟨ad8, rfl, _⟩ := Kd.at_int r3.out.1 0 (by omega) (by omega)
    obtain ⟨ad9, rfl, _⟩ := Kd.at_int r4.out.1 0 (by omega) (by omega)
    have hb4 : Below w.heap.size w w4 := below_step r3.out.2 r4.out.2
    have HB4 := Aside0.mk hb4
    have CO : Aside0 (∀ W x, Below w4.heap.size w4 W → 0 ≤ x → x < 1601 → W.cell? (ad9.add x.toNat) = some (.int .i64 (Tk.cnt (!false) (Tk.vals ps) x : Int)) ∧ W.cell? (ad8.add x.toNat) = some (.int .i64 (Tk.cnt false (Tk.vals ps) x : Int))) := ⟨fun W x hW h0 h1 => by
      obtain ⟨a9, e9, h9⟩ := Kd.at_int r4.out.1 x h0 h1
      obtain ⟨a8, e8, h8⟩ := Kd.at_int r3.out.1 x h0 h1
      injection e9 with e9
      injection e8 with e8
      subst e9 e8
      rw [spec_taCounts.cl_at _ _ _ ⟨h0, h1⟩] at h9 h8
      exact ⟨pw_cell_below hW h9, pw_cell_below hW (pw_cell_below r4.out.2 h8)⟩⟩
    have HS0 := Aside0.mk (show Kd.R Kd.bool 4 w5 w4.heap.size (fun _ => True) (.slice (some ⟨g, 0, none⟩) 1601 cap) (spec_taSay.tb 1601 false (Tk.vals ps) (Tk.vals (ps.take 0))) ∧ Below w4.heap.size w4 w5 from ⟨by
      have := R5.out.1
      rw [spec_taSay.tb_zero (1601 : Int).toNat false (Tk.vals ps)] at this
      exact this, R5.out.2⟩)
    clear hb4 hg1 hg2 R5 r3 r4
    go_loopg [30] ps.length (fun gg s30 wr => ∃ k : Nat, s30 = .int .i64 (k : Int) ∧ k ≤ ps.length ∧ ps.length - k ≤ gg ∧ Aside0 (Kd.R Kd.bool 4 wr w4.heap.size (fun _ => True) (.slice (some ⟨g, 0, none⟩) 1601 cap) (spec_taSay.tb 1601 false (Tk.vals ps) (Tk.vals (ps.take k))) ∧ Below w4.heap.size w4 wr))
    case atStart => exact ⟨0, rfl, Nat.zero_le _, by omega, HS0⟩
    case round =>
      obtain ⟨k, rfl, hk, hgg, HS⟩ := hrel
      clear HS0
      by_cases hi : k < ps.length
      · have hkz : (k : Int) < (ps.length : Int) := by omega
        have hww := below_then HB4.out HB4.out.size HS.out.2
        have hH := HH.out.below hww
        obtain ⟨g0, cap0, ev, hcell⟩ := hH.at_ k hi
        obtain ⟨rfl, rfl⟩ : A = some ⟨g0, 0, none⟩ ∧ c = cap0 := by injection ev with e1 e2 e3; exact ⟨e1, e3⟩
        have hpm : ps[k] ∈ ps := List.getElem_mem hi
        have hbdo := Tk.tv_bd (!false) ps[k] (HO.out.2 _ hpm)
        have hbds := Tk.tv_bd false ps[k] (HO.out.2 _ hpm)
        have hco := (CO.out wr (Tk.tv (!false) (Tk.vl ps[k])) HS.out.2 (by omega) (by omega)).1
        obtain ⟨hm1, hm2⟩ := Kd.R_celln false HS.out.1 (Tk.tv false (Tk.vl ps[k])) (by omega) (by omega)
        have hput := Kd.R_putg HS.out.1 (Tk.tv false (Tk.vl ps[k])) true
        have ht : Tk.vals (ps.take (k + 1)) = Tk.vals (ps.take k) ++ [Tk.vl ps[k]] := by unfold Tk.vals; rw [List.take_succ_eq_append_getElem hi, List.map_append]; rfl
        have HC1 := Aside0.mk (T103.out (!false) ps[k] wr hpm hH.inn)
        have HC2 := Aside0.mk (fun j => T103.out false ps[k] (wr.drewN j) hpm (hH.inn.below (pw_below_drewN (Below.refl _ _) j)))
        have hx0 : 0 ≤ Tk.tv (!false) (Tk.vl ps[k]) := by omega
        have hx1 : Tk.tv (!false) (Tk.vl ps[k]) < 1601 := by omega
        have hy0 : 0 ≤ Tk.tv false (Tk.vl ps[k]) := by omega
        have hy1 : Tk.tv false (Tk.vl ps[k]) < 1601 := by omega
        have HNX := Aside0.mk (show (Tk.cnt (!false) (Tk.vals ps) (Tk.tv (!false) (Tk.vl ps[k])) = 1 → Kd.R Kd.bool 4 (wr.setCell ⟨g, (Tk.tv false (Tk.vl ps[k])).toNat, none⟩ (.bool true)) w4.heap.size (fun _ => True) (.slice (some ⟨g, 0, none⟩) 1601 cap) (spec_taSay.tb 1601 false (Tk.vals ps) (Tk.vals (ps.take (k + 1)))) ∧ Below w4.heap.size w4 (wr.setCell ⟨g, (Tk.tv false (Tk.vl ps[k])).toNat, none⟩ (.bool true))) ∧ (Tk.cnt (!false) (Tk.vals ps) (Tk.tv (!false) (Tk.vl ps[k])) ≠ 1 → Kd.R Kd.bool 4 wr w4.heap.size (fun _ => True) (.slice (some ⟨g, 0, none⟩) 1601 cap) (spec_taSay.tb 1601 false (Tk.vals ps) (Tk.vals (ps.take (k + 1)))) ∧ Below w4.heap.size w4 wr) from ⟨fun h1 => ⟨by rw [ht, ← spec_taSay.tb_set 1601 false (Tk.vals ps) (Tk.vals (ps.take k)) (Tk.vl ps[k]) (by omega) h1]; exact hput.1, below_set HS.out.2 (Kd.R_base HS.out.1 g (by simp [Value.ownBlock]))⟩, fun h1 => ⟨by rw [ht, ← spec_taSay.tb_same 1601 false (Tk.vals ps) (Tk.vals (ps.take k)) (Tk.vl ps[k]) h1]; exact HS.out.1, HS.out.2⟩⟩)
        clear hput ht hpm hbdo hbds hH ev hww
        rw [show Tk.wh (!false) = ⟨#[115]⟩ from rfl] at HC1
        rw [show Tk.wh false = ⟨#[112]⟩ from rfl] at HC2
        generalize Tk.cnt (!false) (Tk.vals ps) (Tk.tv (!false) (Tk.vl ps[k])) = d at hco HNX
        generalize Tk.tv (!false) (Tk.vl ps[k]) = x at hco HC1 hx0 hx1
        generalize Tk.tv false (Tk.vl ps[k]) = y at HC2 HNX hm1 hm2 hy0 hy1
        unfold Tk.cv at hcell
        by_cases hd : d = 1
        · subst hd
          have HN := Aside0.mk (HNX.out.1 rfl)
          clear HNX
          go_wp2_with (first
            | (go_at_call 103; refine HC1.out.mono ?_; rintro e w7 ⟨rfl, j7, rfl⟩; clear HC1)
            | (go_at_call 103; refine (HC2.out _).mono ?_; rintro e w8 ⟨rfl, j8, rfl⟩))
          go_roundg (ps.length - (k + 1))
          case measure => omega
          case rel => exact ⟨k + 1, by go_num, by omega, Nat.le_refl _, ⟨Kd.R_drewN HN.out.1 (j7 + j8), pw_below_drewN HN.out.2 (j7 + j8)⟩⟩
        · have hdz : ¬ (d : Int) = 1 := by omega
          have HN := Aside0.mk (HNX.out.2 hd)
          clear HNX
          go_wp2_with (go_at_call 103; refine HC1.out.mono ?_; rintro e w7 ⟨rfl, j7, rfl⟩; clear HC1)
          go_roundg (ps.length - (k + 1))
          case measure => omega
          case rel => exact ⟨k + 1, by go_num, by omega, Nat.le_refl _, ⟨Kd.R_drewN HN.out.1 _, pw_below_drewN HN.out.2 _⟩⟩
      · have hkz : ¬ (k : Int) < (ps.length : Int) := by omega
        obtain rfl : k = ps.length := by omega
        go_wp2
        obtain ⟨w6, e6⟩ : ∃ w6, w6 = wr := ⟨_, rfl⟩
        subst e6
        have h0 : (Tk.KP.R 36 w6 w6.heap.size (fun _ => True) (.slice none 0 0) ([] : List Tk.PP)) := Kd.R_nil _ _ _ _ _
        have HM := Aside0.mk (show (∀ x, 0 ≤ x → x < 1601 → w6.cell? ⟨g, x.toNat, none⟩ = some (.bool (Tk.might false (Tk.vals ps) (Tk.vals ps) x))) ∧ Below w4.heap.size w4 w6 from ⟨fun x h0 h1 => by
          have h2 := HS.out.1
          rw [List.take_length] at h2
          have h3 := (Kd.R_celln false h2 x h0 (by omega)).1
          rwa [spec_taSay.tb_at _ _ _ _ _ ⟨h0, h1⟩] at h3, HS.out.2⟩)
        clear HS
        go_loopg [13, 49] ps.length (fun gg s13 s49 w' => ∃ (k : Nat) (qs : List Tk.PP), s49 = .int .i64 (k : Int) ∧ k ≤ ps.length ∧ ps.length - k ≤ gg ∧ Aside0 (qs = (ps.take k).filter (fun p => Tk.keepSay false what (Tk.vals ps) (Tk.vl p)) ∧ Tk.KP.R 36 w' w6.heap.size (fun _ => True) s13 qs ∧ Below w6.heap.size w6 w' ∧ qs.length ≤ k))
        case atStart => exact ⟨0, [], rfl, Nat.zero_le _, by omega, ⟨rfl, h0, Below.refl _ _, Nat.le_refl _⟩⟩
        case round =>
          obtain ⟨k, qs, rfl, hk, hgg, HQ⟩ := hrel
          clear h0
          by_cases hi : k < ps.length
          · have hkz : (k : Int) < (ps.length : Int) := by omega
            have hb6 := below_step HM.out.2 HQ.out.2.2.1
            have hww := below_then HB4.out HB4.out.size hb6
            have hH := HH.out.below hww
            obtain ⟨g0, cap0, ev, hcell⟩ := hH.at_ k hi
            obtain ⟨rfl, rfl⟩ : A = some ⟨g0, 0, none⟩ ∧ c = cap0 := by injection ev with e1 e2 e3; exact ⟨e1, e3⟩
            have hpm : ps[k] ∈ ps := List.getElem_mem hi
            have hbds := Tk.tv_bd false ps[k] (HO.out.2 _ hpm)
            have hco := (CO.out _ (Tk.tv false (Tk.vl ps[k])) hb6 (by omega) (by omega)).2
            have hcm := pw_cell_below HQ.out.2.2.1 (HM.out.1 (Tk.tv false (Tk.vl ps[k])) (by omega) (by omega))
            have HC2 := Aside0.mk (T103.out false ps[k] _ hpm hH.inn)
            have hpos := spec_taSay.cnt_pos false ps ps[k] hpm
            have hy0 : 0 ≤ Tk.tv false (Tk.vl ps[k]) := by omega
            have hy1 : Tk.tv false (Tk.vl ps[k]) < 1601 := by omega
            have HKY := Aside0.mk (show (Tk.keepSay false what (Tk.vals ps) (Tk.vl ps[k]) = true → qs ++ [ps[k]] = (ps.take (k + 1)).filter (fun p => Tk.keepSay false what (Tk.vals ps) (Tk.vl p))) ∧ (Tk.keepSay false what (Tk.vals ps) (Tk.vl ps[k]) = false → qs = (ps.take (k + 1)).filter (fun p => Tk.keepSay false what (Tk.vals ps) (Tk.vl p))) from ⟨fun h => by rw [HQ.out.1, List.take_succ_eq_append_getElem hi, List.filter_append]; simp [h], fun h => by rw [HQ.out.1, List.take_succ_eq_append_getElem hi, List.filter_append]; simp [h]⟩)
            have EK : ∀ what, Tk.keepSay false what (Tk.vals ps) (Tk.vl ps[k]) = if what = 33 then !(Tk.might false (Tk.vals ps) (Tk.vals ps) (Tk.tv false (Tk.vl ps[k]))) else decide (Tk.cnt false (Tk.vals ps) (Tk.tv false (Tk.vl ps[k])) = 1) == decide (what = 43) := fun _ => rfl
            rw [EK] at HKY
            clear EK hpm hbds hH ev hww hb6
            rw [show Tk.wh false = ⟨#[112]⟩ from rfl] at HC2
            generalize Tk.cnt false (Tk.vals ps) (Tk.tv false (Tk.vl ps[k])) = d at hco HKY hpos
            generalize Tk.might false (Tk.vals ps) (Tk.vals ps) (Tk.tv false (Tk.vl ps[k])) = b at hcm HKY
            generalize Tk.tv false (Tk.vl ps[k]) = y at HC2 hco hcm hy0 hy1
            unfold Tk.cv at hcell
            rcases hw with rfl | rfl | rfl
            · by_cases hd : (1 : Int) < (d : Int)
              · go_wp2_with (first
                  | (go_at_call 103; refine HC2.out.mono ?_; rintro e w8 ⟨rfl, j8, rfl⟩; clear HC2)
                  | ((with_reducible refine gate_builtin (b := .append) (xs := #[.tmp 87, .tmp 89]) rfl ?_); at_builtin; refine Kd.R_append Tk.KP (w0 := w6) w6.heap.size rfl (.tmp 87) (.tmp 89) 25 36 (.slice none 0 0) 24 rfl Try.underlying25 (by kernel_rfl) rfl (by decide) (by omega) u13 qs ps[k] [.slice (some ⟨ps[k].1, 0, none⟩) 2 2] (fun _ => True) (fun _ => False) rfl (by first | (go_simp; done) | (go_simp; rfl)) rfl (fun _ hk => hk.elim) (fun _ _ => trivial) (Kd.R_drewN HQ.out.2.1 _) (pw_below_drewN HQ.out.2.2.1 _) HQ.out.2.2.1.size (by have := HQ.out.2.2.2; omega) ?_; intro v9 w9 ho hb hg hat; have HO9 := Aside0.mk (show _ ∧ _ from ⟨ho, hb⟩); clear ho hb hg hat))
                go_roundg (ps.length - (k + 1))
                case measure => omega
                case rel => exact ⟨k + 1, qs ++ [ps[k]], by go_num, by omega, Nat.le_refl _, ⟨HKY.out.1 (by simp; omega), HO9.out.1, HO9.out.2, by rw [List.length_append, List.length_singleton]; have := HQ.out.2.2.2; omega⟩⟩
              · go_wp2_with (go_at_call 103; refine HC2.out.mono ?_; rintro e w8 ⟨rfl, j8, rfl⟩; clear HC2)
                go_roundg (ps.length - (k + 1))
                case measure => omega
                case rel => exact ⟨k + 1, qs, by go_num, by omega, Nat.le_refl _, ⟨HKY.out.2 (by simp; omega), Kd.R_drewN HQ.out.2.1 _, pw_below_drewN HQ.out.2.2.1 _, by have := HQ.out.2.2.2; omega⟩⟩
            · by_cases hd : (d : Int) = 1
              · go_wp2_with (first
                  | (go_at_call 103; refine HC2.out.mono ?_; rintro e w8 ⟨rfl, j8, rfl⟩; clear HC2)
                  | ((with_reducible refine gate_builtin (b := .append) (xs := #[.tmp 87, .tmp 89]) rfl ?_); at_builtin; refine Kd.R_append Tk.KP (w0 := w6) w6.heap.size rfl (.tmp 87) (.tmp 89) 25 36 (.slice none 0 0) 24 rfl Try.underlying25 (by kernel_rfl) rfl (by decide) (by omega) u13 qs ps[k] [.slice (some ⟨ps[k].1, 0, none⟩) 2 2] (fun _ => True) (fun _ => False) rfl (by first | (go_simp; done) | (go_simp; rfl)) rfl (fun _ hk => hk.elim) (fun _ _ => trivial) (Kd.R_drewN HQ.out.2.1 _) (pw_below_drewN HQ.out.2.2.1 _) HQ.out.2.2.1.size (by have := HQ.out.2.2.2; omega) ?_; intro v9 w9 ho hb hg hat; have HO9 := Aside0.mk (show _ ∧ _ from ⟨ho, hb⟩); clear ho hb hg hat))
                go_roundg (ps.length - (k + 1))
                case measure => omega
                case rel => exact ⟨k + 1, qs ++ [ps[k]], by go_num, by omega, Nat.le_refl _, ⟨HKY.out.1 (by simp; omega), HO9.out.1, HO9.out.2, by rw [List.length_append, List.length_singleton]; have := HQ.out.2.2.2; omega⟩⟩
              · go_wp2_with (go_at_call 103; refine HC2.out.mono ?_; rintro e w8 ⟨rfl, j8, rfl⟩; clear HC2)
                go_roundg (ps.length - (k + 1))
                case measure => omega
                case rel => exact ⟨k + 1, qs, by go_num, by omega, Nat.le_refl _, ⟨HKY.out.2 (by simp; omega), Kd.R_drewN HQ.out.2.1 _, pw_below_drewN HQ.out.2.2.1 _, by have := HQ.out.2.2.2; omega⟩⟩
            · cases b with
              | false =>
                go_wp2_with (first
                  | (go_at_call 103; refine HC2.out.mono ?_; rintro e w8 ⟨rfl, j8, rfl⟩; clear HC2)
                  | ((with_reducible refine gate_builtin (b := .append) (xs := #[.tmp 87, .tmp 89]) rfl ?_); at_builtin; refine Kd.R_append Tk.KP (w0 := w6) w6.heap.size rfl (.tmp 87) (.tmp 89) 25 36 (.slice none 0 0) 24 rfl Try.underlying25 (by kernel_rfl) rfl (by decide) (by omega) u13 qs ps[k] [.slice (some ⟨ps[k].1, 0, none⟩) 2 2] (fun _ => True) (fun _ => False) rfl (by first | (go_simp; done) | (go_simp; rfl)) rfl (fun _ hk => hk.elim) (fun _ _ => trivial) (Kd.R_drewN HQ.out.2.1 _) (pw_below_drewN HQ.out.2.2.1 _) HQ.out.2.2.1.size (by have := HQ.out.2.2.2; omega) ?_; intro v9 w9 ho hb hg hat; have HO9 := Aside0.mk (show _ ∧ _ from ⟨ho, hb⟩); clear ho hb hg hat))
                go_roundg (ps.length - (k + 1))
                case measure => omega
                case rel => exact ⟨k + 1, qs ++ [ps[k]], by go_num, by omega, Nat.le_refl _, ⟨HKY.out.1 (by simp), HO9.out.1, HO9.out.2, by rw [List.length_append, List.length_singleton]; have := HQ.out.2.2.2; omega⟩⟩
              | true =>
                go_wp2_with (go_at_call 103; refine HC2.out.mono ?_; rintro e w8 ⟨rfl, j8, rfl⟩; clear HC2)
                go_roundg (ps.length - (k + 1))
                case measure => omega
                case rel => exact ⟨k + 1, qs, by go_num, by omega, Nat.le_refl _, ⟨HKY.out.2 (by simp), Kd.R_drewN HQ.out.2.1 _, pw_below_drewN HQ.out.2.2.1 _, by have := HQ.out.2.2.2; omega⟩⟩
          · have hkz : ¬ (k : Int) < (ps.length : Int) := by omega
            obtain rfl : k = ps.length := by omega
            go_wp2
            go_ret
            obtain ⟨hq, hR, hb, _⟩ := HQ.out
            rw [List.take_length] at hq
            have hq' : qs = impl_behind.sel false what ps := hq
            subst hq'
            have hb6 := below_step HM.out.2 hb
            have hin := (HH.out.below (below_then HB4.out HB4.out.size HM.out.2)).inn
            have hs : ∀ p ∈ impl_behind.sel false what ps, p ∈ ps := fun p hp => (List.mem_filter.1 hp).1
            refine ⟨_, rfl, Tk.Has.lower (base := w6.heap.size) (lo := lo) ⟨Tk.row_of hR, (hin.below hb).sub hs, HH.out.nod.sublist ((List.filter_sublist (l := ps)).map _), fun p hp e => ?_⟩ (Nat.le_trans HB4.out.size HM.out.2.size) (Nat.le_refl _), below_then HB4.out HB4.out.size hb6⟩
            have h1 := hin.lt p (hs p hp)
            have h2 := Kd.R_base hR p.1 e
            omega

end Go.Proofs.Ytlkbphhmahipdaa.P
namespace Go.Proofs.Ytlkbphhmahipdaa.P
open Go.RowKit Go.Proofs.YtlkbphhmahipdaaW.PrintWords Go.Proofs.YtlkbphhmahipdaaW.PrintLast Go.Proofs.YtlkbphhmahipdaaW.PrintMore
attribute [local go_sem] max2_int min2_int max_two min_two max_three min_three max_four min_four   -- for this text's walks alone
set_option linter.unusedVariables false
set_option linter.unusedSimpArgs false

/-! ### impl_pairsThat: function 100, by hand -/
-- IMPORT Derived.Test.YtlkbphhmahipdaaTk
/-- The pairs from a on, and those of one first number. -/
def impl_pairsThat.row (q : Int → Int → Bool) (a m : Nat) : List (List Int) := ((List.range m).filter fun j : Nat => q a (a + (j : Int))).map fun j : Nat => [(a : Int), a + (j : Int)]
def impl_pairsThat.all (q : Int → Int → Bool) (n m : Nat) : List (List Int) := (List.range m).flatMap fun i => impl_pairsThat.row q (i + 1) (n - i)
theorem impl_pairsThat.row_yes (q : Int → Int → Bool) (a m : Nat) (h : q a (a + (m : Int)) = true) : impl_pairsThat.row q a (m + 1) = impl_pairsThat.row q a m ++ [[(a : Int), a + (m : Int)]] := by simp [impl_pairsThat.row, List.range_succ, h]
theorem impl_pairsThat.row_no (q : Int → Int → Bool) (a m : Nat) (h : q a (a + (m : Int)) = false) : impl_pairsThat.row q a (m + 1) = impl_pairsThat.row q a m := by simp [impl_pairsThat.row, List.range_succ, h]
theorem impl_pairsThat.all_succ (q : Int → Int → Bool) (n m : Nat) : impl_pairsThat.all q n (m + 1) = impl_pairsThat.all q n m ++ impl_pairsThat.row q (m + 1) (n - m) := by simp [impl_pairsThat.all, List.range_succ]
/-- What the pairs are while they are collected. -/
structure impl_pairsThat.St (w wr : World) (v : Value) (ps : List Tk.PP) (xs : List (List Int)) (N : Nat) : Prop where
  has : Tk.Has 36 3 wr w.heap.size w.heap.size v ps
  val : Tk.vals ps = xs
  few : ps.length ≤ N
  bel : Below w.heap.size w wr
set_option maxHeartbeats 4000000 in
set_option maxRecDepth 100000 in
theorem impl_pairsThat.any (q : Int → Int → Bool) (g : Nat) (lb : Array Value) (eg : ∀ args w, (callFunc g args).run Try.prog w = .ok (.enter g args) w) (n : Nat) (hn : n ≤ 1000) (w : World)
    (hp : ∀ (p : Tk.PP) W, Below w.heap.size w W → W.heap[p.1]? = some (.cells #[.int .i64 p.2.1, .int .i64 p.2.2] 3 (0, 0)) → Calls Try.prog g (#[Tk.cv p] ++ lb) W fun e w' => e = .returned (.bool (q p.2.1 p.2.2)) ∧ Below W.heap.size W w') :
    Calls Try.prog 100 #[.int .i64 (n : Int), .func (.func g) #[] lb] w fun e w' => ∃ v : Value, e = .returned v ∧ ∃ ps : List Tk.PP, Tk.Has 36 3 w' w.heap.size w.heap.size v ps ∧ Tk.vals ps = impl_pairsThat.all q n n ∧ Below w.heap.size w w' := by
  have HP := Aside0.mk hp
  clear hp
  go_enter Try.func100, Try.ntmps100
  go_wp2
  have HS0 := Aside0.mk (show impl_pairsThat.St w (w.alloc (.cells #[] 36)) (.slice (some ⟨w.heap.size, 0, none⟩) 0 0) [] [] 0 from by
    have h := own_lit_of (enc := Tk.cv) w w.heap.size 36 ([] : List Tk.PP) (Nat.le_refl _) (by simp)
    exact ⟨⟨by simpa [encs] using h, (fun p hp => by cases hp), by simp, (fun p hp => by cases hp)⟩, rfl, Nat.le_refl _, below_alloc (Below.refl _ _) _⟩)
  go_loopg [5, 6] n (fun gg s5 s6 wr => ∃ (i : Nat) (a : Int) (ps : List Tk.PP), s6 = .int .i64 a ∧ i ≤ n ∧ n - i ≤ gg ∧ Aside0 (a = (i : Int) + 1) ∧ Aside0 (impl_pairsThat.St w wr s5 ps (impl_pairsThat.all q n i) (i * 1000)))
  case atStart => exact ⟨0, 1, [], rfl, Nat.zero_le _, by omega, ⟨rfl⟩, ⟨by simpa [impl_pairsThat.all] using HS0.out⟩⟩
  case round =>
    obtain ⟨i, a, ps, rfl, hin, hgg, HA, HS⟩ := hrel
    clear HS0
    by_cases hi : i < n
    · have hiz : a ≤ (n : Int) := by have := HA.out; omega
      have ha0 : 1 ≤ a := by have := HA.out; omega
      have hN : (n : Int) ≤ 1000 := by omega
      go_wp2
      go_loopg [5, 7] (n - i) (fun gg s5 s7 wr => ∃ (j : Nat) (b : Int) (ps : List Tk.PP), s7 = .int .i64 b ∧ j ≤ n - i ∧ n - i - j ≤ gg ∧ Aside0 (b = a + j) ∧ Aside0 (impl_pairsThat.St w wr s5 ps (impl_pairsThat.all q n i ++ impl_pairsThat.row q (i + 1) j) (i * 1000 + j)))
      case atStart => exact ⟨0, a, ps, rfl, Nat.zero_le _, by omega, ⟨by simp⟩, ⟨by simpa [impl_pairsThat.row] using HS.out⟩⟩
      case round =>
        obtain ⟨j, b, ps, rfl, hj, hgg, HB, HS⟩ := hrel
        by_cases hjn : j < n - i
        · have hjz : b ≤ (n : Int) := by have := HA.out; have := HB.out; omega
          have hb0 : 1 ≤ b := by have := HA.out; have := HB.out; omega
          have hcall := HP.out (wr.heap.size, a, b) (wr.alloc (.cells #[.int .i64 a, .int .i64 b] 3)) (below_alloc HS.out.bel _) (by show (wr.heap.push _)[wr.heap.size]? = _; simp)
          have eab : q a b = q ((i + 1 : Nat) : Int) (((i + 1 : Nat) : Int) + (j : Int)) := by rw [HB.out, HA.out]; simp
          have EV := Aside0.mk (show [a, b] = [((i + 1 : Nat) : Int), ((i + 1 : Nat) : Int) + (j : Int)] by rw [HB.out, HA.out]; simp)
          unfold Tk.cv at hcall
          have HC := Aside0.mk hcall
          clear hcall
          cases hq : q a b with
          | false =>
            have HC2 : Aside0 (Calls Try.prog g (#[.slice (some ⟨wr.heap.size, 0, none⟩) 2 2] ++ lb) (wr.alloc (.cells #[.int .i64 a, .int .i64 b] 3)) fun e w' => e = .returned (.bool false) ∧ Below (wr.alloc (.cells #[.int .i64 a, .int .i64 b] 3)).heap.size (wr.alloc (.cells #[.int .i64 a, .int .i64 b] 3)) w') := ⟨by have := HC.out; simp only [hq] at this; exact this⟩
            have HQ := Aside0.mk (eab.symm.trans hq)
            clear hq eab HC
            go_wp2_with fail
            refine HC2.out.mono ?_
            rintro e w2 ⟨rfl, hb⟩
            have HB2 := Aside0.mk hb
            clear hb HC2
            go_wp2
            go_roundg (n - i - (j + 1))
            case measure => omega
            case rel =>
              have hb := (below_alloc (Below.refl wr.heap.size wr) _).trans (HB2.out.mono (by simp))
              exact ⟨j + 1, b + 1, ps, by go_num, by omega, by omega, ⟨by have := HB.out; omega⟩, ⟨HS.out.has.below hb, by rw [impl_pairsThat.row_no q (i + 1) j HQ.out]; exact HS.out.val, by have := HS.out.few; omega, below_step HS.out.bel hb⟩⟩
          | true =>
            have HC2 : Aside0 (Calls Try.prog g (#[.slice (some ⟨wr.heap.size, 0, none⟩) 2 2] ++ lb) (wr.alloc (.cells #[.int .i64 a, .int .i64 b] 3)) fun e w' => e = .returned (.bool true) ∧ Below (wr.alloc (.cells #[.int .i64 a, .int .i64 b] 3)).heap.size (wr.alloc (.cells #[.int .i64 a, .int .i64 b] 3)) w') := ⟨by have := HC.out; simp only [hq] at this; exact this⟩
            have HQ := Aside0.mk (eab.symm.trans hq)
            clear hq eab HC
            go_wp2_with fail
            refine HC2.out.mono ?_
            rintro e w2 ⟨rfl, hb⟩
            have HB2 := Aside0.mk hb
            clear hb HC2
            have HK := Aside0.mk (show impl_pairsThat.St w w2 u5 ps (impl_pairsThat.all q n i ++ impl_pairsThat.row q (i + 1) j) (i * 1000 + j) ∧ (w.heap.size ≤ wr.heap.size ∧ w2.heap[wr.heap.size]? = some (.cells #[.int .i64 a, .int .i64 b] 3 (0, 0))) ∧ (∀ p ∈ ps, p.1 ≠ wr.heap.size) ∧ u5.ownBlock ≠ some wr.heap.size from by
              have hb := (below_alloc (Below.refl wr.heap.size wr) (.cells #[.int .i64 a, .int .i64 b] 3)).trans (HB2.out.mono (by simp))
              refine ⟨⟨HS.out.has.below hb, HS.out.val, HS.out.few, below_step HS.out.bel hb⟩, ⟨HS.out.bel.size, ?_⟩, fun p hp => ?_, fun e => ?_⟩
              · rw [HB2.out.block _ (by simp)]
                show (wr.heap.push _)[wr.heap.size]? = _
                simp
              · have := HS.out.has.inn.lt p hp; omega
              · have := (HS.out.has.lt _ e).2; omega)
            generalize wr.heap.size = Bp at HK
            go_wp2_with ((with_reducible refine gate_builtin (b := .append) (xs := #[.tmp 27, .tmp 29]) rfl ?_); at_builtin; refine Kd.R_append Tk.KP (w0 := w) w.heap.size rfl (.tmp 27) (.tmp 29) 25 36 (.slice none 0 0) 24 rfl Try.underlying25 (by kernel_rfl) rfl (by decide) (by omega) u5 ps (Bp, a, b) [.slice (some ⟨Bp, 0, none⟩) 2 2] (fun _ => True) (fun _ => False) rfl (by first | (go_simp; done) | (go_simp; rfl)) rfl (fun _ hk => hk.elim) (fun _ _ => trivial) HK.out.1.has.R HK.out.1.bel HK.out.1.bel.size (by have := HK.out.1.few; omega) ?_; intro v3 w3 ho hb hg hat; have HO := Aside0.mk (HK.out.1.has.push (Bp, a, b) HK.out.2.1 HK.out.2.2.1 HK.out.2.2.2 ho hg hat); have HB3 := Aside0.mk hb; clear ho hb hg hat)
            go_roundg (n - i - (j + 1))
            case measure => omega
            case rel =>
              exact ⟨j + 1, b + 1, ps ++ [(Bp, a, b)], by go_num, by omega, by omega, ⟨by have := HB.out; omega⟩, ⟨HO.out, by rw [impl_pairsThat.row_yes q (i + 1) j HQ.out, ← List.append_assoc, ← EV.out, ← HK.out.1.val]; simp [Tk.vals, Tk.vl], by rw [List.length_append, List.length_singleton]; have := HK.out.1.few; omega, HB3.out⟩⟩
        · have hjz : ¬ b ≤ (n : Int) := by have := HA.out; have := HB.out; omega
          obtain rfl : j = n - i := by omega
          go_wp2
          go_roundg (n - (i + 1))
          case measure => omega
          case rel => exact ⟨i + 1, a + 1, ps, by go_num, by omega, by omega, ⟨by have := HA.out; omega⟩, ⟨HS.out.has, by rw [impl_pairsThat.all_succ]; exact HS.out.val, by have := HS.out.few; omega, HS.out.bel⟩⟩
    · have hiz : ¬ a ≤ (n : Int) := by have := HA.out; omega
      obtain rfl : i = n := by omega
      go_wp2
      go_ret
      exact ⟨_, rfl, _, HS.out.has, HS.out.val, HS.out.bel⟩

end Go.Proofs.Ytlkbphhmahipdaa.P
