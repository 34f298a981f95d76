/- Calls of the functions of the given program return what the plain Lean functions of the same names return; and a row of a law out of its pure statement. Written by a program of this session out of the translation; Lean checks it. No condition. -/
import Derived.Test.YtllihaahppelhaaPx0
import Derived.Test.YtllihaahppelhaaHlp
import Derived.Test.YtllihaahppelhaaShl
import Derived.Laws.CopyOwn
import Derived.Deep.RegionLaw
import Derived.IntWalk
namespace Go.Proofs.Ytllihaahppelhaa.P
open Go.RowKit Go.Proofs.YtllihaahppelhaaW.PrintWords Go.Proofs.YtllihaahppelhaaW.PrintLast Go.Proofs.YtllihaahppelhaaW.PrintMore
attribute [local go_sem] max2_int min2_int max_two min_two max_three min_three max_four min_four   -- for this text's walks alone
set_option linter.unusedVariables false
set_option linter.unusedSimpArgs false

/-! ### slices_Repeat_int_int: function 71, by hand -/
-- IMPORT Derived.Test.YtllihaahppelhaaHlp
-- IMPORT Derived.Test.YtllihaahppelhaaShl
-- IMPORT Derived.Laws.CopyOwn
-- IMPORT Derived.Deep.RegionLaw
-- IMPORT Derived.IntWalk
def slices_Repeat_int_int.f (l0 : List Int) (a1 : Int) : Option (List Int) := if l0.length = 1 then (if 1 ≤ a1 then (if a1 ≤ 1000 then some (List.replicate a1.toNat (rd l0 0)) else none) else none) else none
def slices_Repeat_int_int.row (x : Int) (m k : Nat) : List Value := List.replicate k (.int .i64 x) ++ List.replicate (m - k) (.int .i64 0)
theorem slices_Repeat_int_int.row_len (x : Int) (m k : Nat) (h : k ≤ m) : (slices_Repeat_int_int.row x m k).length = m := by simp [slices_Repeat_int_int.row]; omega
theorem slices_Repeat_int_int.row_step (x : Int) (m k q : Nat) (h : k + q ≤ m) : splice (slices_Repeat_int_int.row x m k) k (List.replicate q (.int .i64 x)) = slices_Repeat_int_int.row x m (k + q) := by
  unfold splice slices_Repeat_int_int.row
  have e1 : (List.replicate k (Value.int .i64 x) ++ List.replicate (m - k) (Value.int .i64 0)).take k = List.replicate k (Value.int .i64 x) := by
    rw [List.take_append_of_le_length (by simp)]; simp
  have e2 : (List.replicate k (Value.int .i64 x) ++ List.replicate (m - k) (Value.int .i64 0)).drop (k + q) = List.replicate (m - (k + q)) (Value.int .i64 0) := by
    rw [List.drop_append, List.length_replicate, List.drop_replicate, List.drop_replicate, show k - (k + q) = 0 by omega, show m - k - (k + q - k) = m - (k + q) by omega]
    rfl
  rw [List.length_replicate, e1, e2, ← List.append_assoc, List.replicate_append_replicate]
theorem slices_Repeat_int_int.row_at (x : Int) (m k j : Nat) (hj : j < k) (v : Value) (hv : (List.replicate k (Value.int .i64 x))[j]? = some v) : (slices_Repeat_int_int.row x m k).toArray[j]? = some v := by
  unfold slices_Repeat_int_int.row
  rw [List.getElem?_toArray, List.getElem?_append_left (by simpa using hj)]
  exact hv
set_option maxHeartbeats 4000000 in
set_option maxRecDepth 100000 in
theorem slices_Repeat_int_int.calls (A0 : Option Addr) (c0 : Nat) (l0 : List Int) (a1 : Int) (r : List Int) (w : World) (hr0 : Kd.C (Kd.int .i64) w A0 l0.length l0) (hc0 : l0.length ≤ c0) (h : slices_Repeat_int_int.f l0 a1 = some r) :
    Calls Try.prog 71 #[.slice A0 l0.length c0, .int .i64 a1] w fun e w' => ∃ v0_ : Value, e = .returned v0_ ∧ Kd.R (Kd.int .i64) 3 w' w.heap.size (fun _ => True) v0_ r ∧ Below w.heap.size w w' := by
  unfold slices_Repeat_int_int.f at h
  have h1 : l0.length = 1 := by
    split at h
    · assumption
    · cases h
  rw [if_pos h1] at h
  have h2 : 1 ≤ a1 := by
    split at h
    · assumption
    · cases h
  rw [if_pos h2] at h
  have h3 : a1 ≤ 1000 := by
    split at h
    · assumption
    · cases h
  rw [if_pos h3] at h
  obtain rfl := Option.some.inj h
  clear h
  obtain ⟨m, rfl⟩ := Int.eq_ofNat_of_zero_le (show 0 ≤ a1 by omega)
  rw [Int.toNat_natCast]
  obtain ⟨x, rfl⟩ : ∃ x, l0 = [x] := by
    match l0, h1 with
    | [x], _ => exact ⟨x, rfl⟩
  obtain ⟨ad, rfl, hx⟩ := Hlp.int_at hr0 0 (by simp)
  have hx : w.cell? (ad.add 0) = some (.int .i64 x) := hx
  have hmul : ∀ W, Calls Try.prog 88 #[.int .u64 1, .int .u64 (m : Int)] W fun e w' => e = .returned (.tuple #[.int .u64 0, .int .u64 (m : Int)]) ∧ W = w' := by
    intro W
    have := Try.bits_Mul 1 m (by omega) (by omega) W
    rw [show (1 * m / 18446744073709551616 : Nat) = 0 by omega, show (1 * m % 18446744073709551616 : Nat) = m by omega] at this
    exact this.mono fun e w' he => ⟨he.1, he.2.symm⟩
  have hmk := print_make (P := Try.prog) 37 3 .i64 8 Try.underlying37 info3 (by omega) m (by omega)
  have hin : (Try.prog.info? 3).map (·.size) = some 1 := by
    obtain ⟨i0, hi, _, hz, _⟩ := info_parts info3
    rw [hi]; exact congrArg some hz
  have hw0 : ∀ W : World, (W.alloc (.cells (madeCells #[.int .i64 0] m) 3)).heap[W.heap.size]? = some (.cells (slices_Repeat_int_int.row x m 0).toArray 3 (0, 0)) := by
    intro W
    rw [heap_alloc_new]
    congr 2
    apply Array.ext
    · simp [slices_Repeat_int_int.row, size_madeCells]
    · intro i h1 h2
      simp [slices_Repeat_int_int.row, madeCells, Nat.mod_one]
  have hb0 : Below w.heap.size w (w.alloc (.cells (madeCells #[.int .i64 0] m) 3)) := (Below.refl _ w).alloc (Nat.le_refl _) _
  have HB0 := Aside0.mk hb0
  have HW0 := Aside0.mk (hw0 w)
  have HX := Aside0.mk (show (w.alloc (.cells (madeCells #[.int .i64 0] m) 3)).cell? (ad.add 0) = some (.int .i64 x) from pw_cell_below hb0 hx)
  have HI := Aside0.mk hin
  have HM := Aside0.mk hmul
  have HF := Aside0.mk (show ∀ (w' : World) (g : Nat), g = w.heap.size → w'.heap[g]? = some (.cells (slices_Repeat_int_int.row x m m).toArray 3 (0, 0)) → Kd.R (Kd.int .i64) 3 w' w.heap.size (fun _ => True) (.slice (some ⟨g, 0, none⟩) m m) (List.replicate m x) from by
    intro w' g hg hh
    refine Kd.R_of_own ?_ (fun _ _ => trivial)
    rw [List.length_replicate]
    refine ⟨by simp [encs], .inr ⟨g, m, (slices_Repeat_int_int.row x m m).toArray, rfl, by omega, hh, Nat.le_refl _, by unfold maxLen; omega, by simp [slices_Repeat_int_int.row], ?_⟩⟩
    simp [slices_Repeat_int_int.row, encs])
  have e1 : (0 : Int) ≤ (m : Int) := by omega
  clear hb0 hw0 hx hr0 hin hmul h1
  go_enter Try.func71, Try.ntmps71
  go_wp2_with (first | (go_at_call 88; refine (HM.out _).mono ?_; rintro e w' ⟨rfl, rfl⟩) | (with_reducible refine wpList_copy_splice rfl (.tmp 31) (.tmp 32) 37 37 rfl 3 Try.underlying37 HI.out (some ⟨w.heap.size, 0, none⟩) (some ad) m m 1 c0 rfl rfl w.heap.size 0 (slices_Repeat_int_int.row x m 0) 3 HW0.out [.int .i64 x] ?hn ?hpos ?hfit ?h1 w.heap.size w HB0.out (Nat.le_refl _) ?_))
  case hn => simp [Nat.min_def]; omega
  case hpos =>
    intro j v hv
    cases j with
    | zero => obtain rfl := Option.some.inj hv; exact HX.out
    | succ j => simp at hv
  case hfit => rw [slices_Repeat_int_int.row_len x m 0 (by omega)]; simp; omega
  case h1 => intro u hu; rw [List.mem_singleton.1 hu]; rfl
  intro w1 hg1 hb1
  have HB1 := Aside0.mk hb1
  have HG1 := Aside0.mk (show w1.heap[w.heap.size]? = some (.cells (slices_Repeat_int_int.row x m 1).toArray 3 (0, 0)) from by
    have h5 := hg1.out
    rw [show ([Value.int .i64 x] : List Value) = List.replicate 1 (Value.int .i64 x) from rfl, slices_Repeat_int_int.row_step x m 0 1 (by omega)] at h5
    exact h5)
  clear hb1 hg1 HX HW0 HB0 HM hmk
  go_wp2
  go_loopg [8] m (fun gg s8 wr => ∃ k : Nat, 1 ≤ k ∧ k ≤ m ∧ m - k ≤ gg ∧ s8 = .int .i64 (k : Int) ∧ Aside0 (wr.heap[w.heap.size]? = some (.cells (slices_Repeat_int_int.row x m k).toArray 3 (0, 0))) ∧ Aside0 (Below w.heap.size w wr))
  case atStart => exact ⟨1, Nat.le_refl _, by omega, by omega, rfl, HG1, HB1⟩
  case round =>
    obtain ⟨k, hk1, hkm, hgg, rfl, HG, HB⟩ := hrel
    clear HG1 HB1
    by_cases hlt : k < m
    · obtain ⟨q, hq⟩ : ∃ q, q = Nat.min k (m - k) := ⟨_, rfl⟩
      have hq1 : 1 ≤ q := by rw [hq]; show 1 ≤ min k (m - k); omega
      have hq2 : k + q ≤ m := by rw [hq]; show k + min k (m - k) ≤ m; omega
      have hq3 : q ≤ k := by rw [hq]; show min k (m - k) ≤ k; omega
      have HQ := Aside0.mk hq
      have hltz : (k : Int) < (m : Int) := by omega
      have hne : ¬ m = k := by omega
      have hs1 : IntKind.i64.wrap ((k : Int) + (q : Int)) = (k : Int) + (q : Int) := IntWalk.i64_in _ (by omega)
      clear hq
      have HP := Aside0.mk (show ∀ j v, (List.replicate q (Value.int .i64 x))[j]? = some v → wr.cell? ((⟨w.heap.size, 0, none⟩ : Addr).add j) = some v from by
        intro j v hv
        have hj : j < q := by
          have := (List.getElem?_eq_some_iff.1 hv).1
          simpa using this
        rw [add_plain, blk_cell HG.out]
        refine slices_Repeat_int_int.row_at x m k j (by omega) v ?_
        rw [List.getElem?_replicate, if_pos (by omega)]
        rw [List.getElem?_replicate, if_pos hj] at hv
        exact hv)
      go_wp2
      go_region_law (refine step_copy_splice rfl (.tmp 41) (.tmp 44) 37 37 rfl 3 Try.underlying37 HI.out (some ⟨w.heap.size, k, none⟩) (some ⟨w.heap.size, 0, none⟩) (m - k) (m - k) k m (by simp [Act.eval, Act.put]) (by simp [Act.eval, Act.put]) w.heap.size k (slices_Repeat_int_int.row x m k) 3 HG.out (List.replicate q (.int .i64 x)) (by rw [List.length_replicate]; exact HQ.out) (fun _ => ⟨rfl, _, rfl, HP.out⟩) (by rw [slices_Repeat_int_int.row_len x m k (by omega), List.length_replicate]; exact hq2) (by intro u hu; rw [List.eq_of_mem_replicate hu]; rfl) w.heap.size w (pw_below_drewN HB.out 1) (Nat.le_refl _) ?_; intro w4 hg4 hb4; have HG4 := Aside0.mk (show w4.heap[w.heap.size]? = some (.cells (slices_Repeat_int_int.row x m (k + q)).toArray 3 (0, 0)) from (by have h5 := hg4.out; rw [slices_Repeat_int_int.row_step x m k q hq2] at h5; exact h5)); have HB4 := Aside0.mk hb4; clear hg4 hb4; simp only [List.length_replicate])
      go_simp
      go_wp2
      go_roundg (m - (k + q))
      case measure => omega
      case rel => exact ⟨k + q, by omega, hq2, by omega, by go_num, HG4, HB4⟩
    · obtain rfl : k = m := by omega
      have hltz : ¬ (k : Int) < (k : Int) := by omega
      go_wp2
      go_ret
      exact ⟨_, rfl, HF.out _ _ rfl HG.out, HB.out⟩

end Go.Proofs.Ytllihaahppelhaa.P
