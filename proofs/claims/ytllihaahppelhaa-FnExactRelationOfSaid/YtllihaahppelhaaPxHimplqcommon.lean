/- Calls of the functions of the given program return what the plain Lean functions of the same names return; and a row of a law out of its pure statement. Written by a program of this session out of the translation; Lean checks it. No condition. -/
import Derived.Test.YtllihaahppelhaaPx0
import Derived.Test.YtllihaahppelhaaPxHslicesqDeleteFuncqintqint
import Derived.Test.YtllihaahppelhaaPxHslicesqCloneqintqint
import Derived.Test.YtllihaahppelhaaPx15
import Derived.Test.YtllihaahppelhaaHlp
import Derived.Test.YtllihaahppelhaaEv
namespace Go.Proofs.Ytllihaahppelhaa.P
open Go.RowKit Go.Proofs.YtllihaahppelhaaW.PrintWords Go.Proofs.YtllihaahppelhaaW.PrintLast Go.Proofs.YtllihaahppelhaaW.PrintMore
attribute [local go_sem] max2_int min2_int max_two min_two max_three min_three max_four min_four   -- for this text's walks alone
set_option linter.unusedVariables false
set_option linter.unusedSimpArgs false

/-! ### impl_common: function 76, by hand -/
-- IMPORT Derived.Test.YtllihaahppelhaaHlp
-- IMPORT Derived.Test.YtllihaahppelhaaEv
def impl_common.f (l0 l1 : List Int) : Option (List Int) := if l0.length < 17592186044416 then some (l0.filter fun x => l1.contains x) else none
theorem impl_common.index (l : List Int) (x : Int) (hl : l.length ≤ 9223372036854775807) (n : Nat) : ∀ i : Nat, i ≤ l.length → l.length - i ≤ n →
    ∃ r : Int, Ev (fun k => slices_Index_int_int.l0 k l x (l.length : Int) (i : Int)) r ∧ decide (r ≥ 0) = (l.drop i).contains x := by
  induction n with
  | zero =>
    intro i h1 h2
    obtain rfl : i = l.length := by omega
    exact ⟨-1, Ev.step (f := fun k => _) (fun k => by rw [slices_Index_int_int.l0]) (E.ifn (by omega) E.now), by simp⟩
  | succ n ih =>
    intro i h1 h2
    by_cases hi : i < l.length
    · have hr : rd l (i : Int) = l[i] := by simp [rd, List.getD_eq_getElem?_getD, List.getElem?_eq_getElem hi]
      by_cases he : x = l[i]
      · refine ⟨(i : Int), Ev.step (f := fun k => _) (fun k => by rw [slices_Index_int_int.l0]) (E.ifp (by omega) (E.ifp (by omega) (E.ifp (by omega) (E.ifp (by rw [hr]; exact he) E.now)))), ?_⟩
        have h5 : (x == l[i]) = true := by simpa using he
        rw [List.drop_eq_getElem_cons hi, List.contains_cons, h5]
        simp
      · obtain ⟨r, h3, h4⟩ := ih (i + 1) (by omega) (by omega)
        refine ⟨r, Ev.step (f := fun k => _) (fun k => by rw [slices_Index_int_int.l0]) (E.ifp (by omega) (E.ifp (by omega) (E.ifp (by omega) (E.ifn (by rw [hr]; exact he) ?_)))), ?_⟩
        · rw [show wrap64 ((i : Int) + 1) = ((i + 1 : Nat) : Int) by unfold wrap64; omega]; exact h3
        · have h5 : (x == l[i]) = false := by simpa using he
          rw [List.drop_eq_getElem_cons hi, List.contains_cons, h5, Bool.false_or, h4]
    · obtain rfl : i = l.length := by omega
      exact ⟨-1, Ev.step (f := fun k => _) (fun k => by rw [slices_Index_int_int.l0]) (E.ifn (by omega) E.now), by simp⟩
theorem impl_common.contains (l : List Int) (x : Int) (hl : l.length ≤ 9223372036854775807) : ∃ k, slices_Contains_int_int.f k l x = some (l.contains x) := by
  obtain ⟨r, h1, h2⟩ := impl_common.index l x hl _ 0 (by omega) (Nat.le_refl _)
  obtain ⟨k, hk⟩ := h1.rounds
  refine ⟨k, ?_⟩
  unfold slices_Contains_int_int.f slices_Index_int_int.f
  have hk' : slices_Index_int_int.l0 k l x (l.length : Int) 0 = some r := hk
  rw [hk']
  simp only [Option.bind_some]
  rw [h2]; rfl
set_option maxHeartbeats 1000000 in
theorem impl_common.clo (A1 : Option Addr) (c1 : Nat) (l1 : List Int) (B : Nat) (x : Int) (W : World) (hB : W.cell? ⟨B, 0, none⟩ = some (.slice A1 l1.length c1)) (hr : Kd.C (Kd.int .i64) W A1 l1.length l1) (hc : l1.length ≤ c1) :
    Calls Try.prog 92 #[.int .i64 x, .pointer (some ⟨B, 0, none⟩)] W fun e w' => e = .returned (.bool (!l1.contains x)) ∧ Below W.heap.size W w' := by
  obtain ⟨k, hk⟩ := impl_common.contains l1 x (Hlp.C_len hr)
  have hcall := slices_Contains_int_int.calls k A1 c1 l1 x _ W hr hc hk
  generalize l1.contains x = b at hcall ⊢
  have HC : Aside0 _ := ⟨hcall⟩
  clear hcall hk hr
  go_enter Try.func92, Try.ntmps92
  go_wp2_with (go_at_call 57; refine HC.out.mono ?_; rintro e w' ⟨rfl, hd⟩)
  go_ret
  exact ⟨rfl, hd.below⟩
set_option maxHeartbeats 2000000 in
theorem impl_common.calls (A0 : Option Addr) (c0 : Nat) (l0 : List Int) (A1 : Option Addr) (c1 : Nat) (l1 : List Int) (r : List Int) (w : World) (hr0 : Kd.C (Kd.int .i64) w A0 l0.length l0) (hc0 : l0.length ≤ c0) (hr1 : Kd.C (Kd.int .i64) w A1 l1.length l1) (hc1 : l1.length ≤ c1) (h : impl_common.f l0 l1 = some r) :
    Calls Try.prog 76 #[.slice A0 l0.length c0, .slice A1 l1.length c1] w fun e w' => ∃ v0_ : Value, e = .returned v0_ ∧ Kd.R (Kd.int .i64) 3 w' w.heap.size (fun _ => True) v0_ r ∧ Below w.heap.size w w' := by
  have hlt : l0.length < 17592186044416 := by
    unfold impl_common.f at h
    split at h
    · assumption
    · cases h
  obtain rfl : l0.filter (fun x => l1.contains x) = r := by unfold impl_common.f at h; rw [if_pos hlt] at h; exact Option.some.inj h
  have eg : ∀ args w, (callFunc 92 args).run Try.prog w = .ok (.enter 92 args) w := enters_of Try.func92 (by kernel_rfl) rfl
  have hb1 : Below w.heap.size w (w.alloc (.cells #[.slice A1 l1.length c1] 37)) := (Below.refl _ w).alloc (Nat.le_refl _) _
  have hcl := slices_Clone_int_int.calls A0 c0 l0 l0 (w.alloc (.cells #[.slice A1 l1.length c1] 37)) (Kd.C_below hr0 hb1) hc0 (by unfold slices_Clone_int_int.f; rw [if_pos hlt])
  have hbox : (w.alloc (.cells #[.slice A1 l1.length c1] 37)).cell? ⟨w.heap.size, 0, none⟩ = some (.slice A1 l1.length c1) := by simp
  have hdel : ∀ (v : Value) (w1 : World), Kd.R (Kd.int .i64) 3 w1 (w.heap.size + 1) (fun _ => True) v l0 → Below (w.heap.size + 1) (w.alloc (.cells #[.slice A1 l1.length c1] 37)) w1 →
      Calls Try.prog 72 #[v, .func (.func 92) #[] #[.pointer (some ⟨w.heap.size, 0, none⟩)]] w1 fun e w' =>
        ∃ v' : Value, e = .returned v' ∧ w'.ownsRow w.heap.size 3 1 v' (l0.filter fun x => l1.contains x).length (nums .i64 (l0.filter fun x => l1.contains x)) ∧ Below w.heap.size w w' := by
    intro v w1 hR hb2
    have ho : w1.ownsRow (w.heap.size + 1) 3 1 v l0.length (nums .i64 l0) := Kd.own_of_R hR
    have hb3 : Below w.heap.size w w1 := hb1.trans (hb2.mono (by omega))
    have hin : ∀ W, w1.grownBy W v.ownBlock → Below (w.heap.size + 1) (w.alloc (.cells #[.slice A1 l1.length c1] 37)) W := fun W hg => hb2.grown hg (by have := hb2.size; simp at this; omega) (fun k hk => own_base ho k hk)
    refine (slices_DeleteFunc_int_int.row (fun x => !l1.contains x) 92 #[.pointer (some ⟨w.heap.size, 0, none⟩)] eg w.heap.size v l0 w1 (own_weaken ho (by omega)) (fun x _ W hg => ?_)).mono ?_
    · have hW := hin W hg
      have hW2 : Below w.heap.size w W := hb1.trans (hW.mono (by omega))
      exact impl_common.clo A1 c1 l1 w.heap.size x W ((hW.cell (p := ⟨w.heap.size, 0, none⟩) (by simp)).trans hbox) (Kd.C_below hr1 hW2) hc1
    · rintro e w' ⟨v', he, ho', hg⟩
      simp only [Bool.not_not] at ho'
      exact ⟨v', he, ho', hb1.trans ((hin w' hg).mono (by omega))⟩
  generalize l0.filter (fun x => l1.contains x) = r at hdel ⊢
  have HC : Aside0 _ := ⟨hcl⟩
  have HD : Aside0 _ := ⟨hdel⟩
  clear hcl hdel hbox hb1 hr0 hr1 h hlt
  go_enter Try.func76, Try.ntmps76
  go_wp2_with (first | (go_at_call 89; refine HC.out.mono ?_; rintro e w1 ⟨v1, rfl, hR, hb⟩; have HR : Aside0 _ := ⟨hR⟩; have HB : Aside0 _ := ⟨hb⟩; clear hR hb) | (go_at_call 72; refine (HD.out _ _ (by simpa using HR.out) (by simpa using HB.out)).mono ?_; rintro e w2 ⟨v2, rfl, hO, hb⟩; have HO : Aside0 _ := ⟨hO⟩; have HB2 : Aside0 _ := ⟨hb⟩; clear hO hb))
  go_ret
  exact ⟨_, rfl, Kd.R_of_own HO.out (fun _ _ => trivial), HB2.out⟩

end Go.Proofs.Ytllihaahppelhaa.P
