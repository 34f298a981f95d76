/- Calls of the functions of the given program return what the plain Lean functions of the same names return; and a row of a law out of its pure statement. Written by a program of this session out of the translation; Lean checks it. No condition. -/
import Derived.Test.YtllihaahppelhaaPx0
import Derived.Test.YtllihaahppelhaaPxHslicesqCloneqintqint
import Derived.Test.YtllihaahppelhaaHlp
import Derived.Sort.OwnSortedInts
import Derived.Lib.OwnBridge
import Derived.Test.YtllihaahppelhaaShl
namespace Go.Proofs.Ytllihaahppelhaa.P
open Go.RowKit Go.Proofs.YtllihaahppelhaaW.PrintWords Go.Proofs.YtllihaahppelhaaW.PrintLast Go.Proofs.YtllihaahppelhaaW.PrintMore
attribute [local go_sem] max2_int min2_int max_two min_two max_three min_three max_four min_four   -- for this text's walks alone
set_option linter.unusedVariables false
set_option linter.unusedSimpArgs false

/-! ### impl_distinct: function 74, by hand -/
-- IMPORT Derived.Test.YtllihaahppelhaaHlp
-- IMPORT Derived.Sort.OwnSortedInts
-- IMPORT Derived.Lib.OwnBridge
-- IMPORT Derived.Test.YtllihaahppelhaaShl
def impl_distinct.f (l0 : List Int) : Option (List Int) := if l0.length < 17592186044416 then some (Lib.compact (l0.mergeSort fun x y => decide (x ≤ y))) else none
set_option maxHeartbeats 1000000 in
theorem impl_distinct.sort (base : Nat) (v : Value) (xs : List Int) (w0 w1 : World) (hx : xs.length < 4611686018427387904) (hR : Kd.R (Kd.int .i64) 3 w1 base (fun _ => True) v xs) (hB : Below base w0 w1) (hbs : base ≤ w0.heap.size) :
    Calls Try.prog 90 #[v] w1 fun e w' => e = .returned (.tuple #[]) ∧ Kd.R (Kd.int .i64) 3 w' base (fun _ => True) v (xs.mergeSort fun x y => decide (x ≤ y)) ∧ Below base w0 w' := by
  have own := Kd.own_of_R hR
  rcases own.2 with ⟨rfl, h0⟩ | ⟨g, cap, cur, rfl, hbase, hb, h1, h2, h3, h4⟩
  · obtain rfl : xs = [] := List.eq_nil_of_length_eq_zero h0
    have hcon := Try.slices_Sort_int_none none 0 w1
    refine hcon.mono ?_
    rintro e w' ⟨rfl, rfl⟩
    exact ⟨rfl, by simpa using Kd.R_nil (Kd.int .i64) _ _ _ _, hB⟩
  · have hH : Go.Sort.Holds (Value.int .i64) w1 g 0 xs.toArray := holds_of_blockI hb (by simpa [encs] using h4)
    have hg : g < w1.heap.size := (Array.getElem?_eq_some_iff.1 hb).1
    have hcon := Try.slices_Sort_int g 0 cap xs w1 hH hg hx
    refine hcon.mono ?_
    rintro e w' ⟨rfl, n, os, rfl⟩
    have hs := ownsRow_sortedI (n := n) (os := os) (ss := xs) (ts := xs.mergeSort fun x y => decide (x ≤ y)) (List.length_mergeSort xs) hbase hb h1 h2 h3
    refine ⟨rfl, Kd.R_of_own (by simpa [encs] using hs) (fun _ _ => trivial), hB.grown (grownBy_sortedI _) (Nat.le_trans hbs hB.size) (fun j hj => by cases hj; exact hbase)⟩
set_option maxHeartbeats 1000000 in
theorem impl_distinct.comp (base : Nat) (v : Value) (xs : List Int) (w0 w1 : World) (hx : xs.length < 4611686018427387904) (hR : Kd.R (Kd.int .i64) 3 w1 base (fun _ => True) v xs) (hB : Below base w0 w1) :
    Calls Try.prog 91 #[v] w1 fun e w' => ∃ v' : Value, e = .returned v' ∧ Kd.R (Kd.int .i64) 3 w' base (fun _ => True) v' (Lib.compact xs) ∧ Below base w0 w' := by
  have own := Kd.own_of_R hR
  rcases own.2 with ⟨rfl, h0⟩ | ⟨g, cap, cur, rfl, hbase, hb, h1, h2, h3, h4⟩
  · obtain rfl : xs = [] := List.eq_nil_of_length_eq_zero h0
    have hcon := Try.slices_Compact_int_empty none 0 w1
    refine hcon.mono ?_
    rintro e w' ⟨rfl, rfl⟩
    exact ⟨_, rfl, Kd.R_nil _ _ _ _ _, hB⟩
  · have hH : Go.Sort.Holds (Value.int .i64) w1 g 0 xs.toArray := holds_of_blockI hb (by simpa [encs] using h4)
    have hcon := Try.slices_Compact_int g 0 cap xs w1 hH (by omega) h1
    refine hcon.mono ?_
    rintro e w' ⟨rfl, q, rfl⟩
    have hle := Lib.compact_length_le xs
    have hc := Lib.ownsRow_putRow (enc := Value.int .i64) (q := q) (k := (Lib.compact xs).length) (ys := Lib.compact xs ++ List.replicate (xs.length - (Lib.compact xs).length) 0) (zs := xs) (by simpa [encs] using own) (by simp; omega) hle
    rw [List.take_left] at hc
    exact ⟨_, rfl, Kd.R_of_own (by simpa [encs] using hc) (fun _ _ => trivial), Lib.below_putRow hB hbase⟩
set_option maxHeartbeats 2000000 in
theorem impl_distinct.calls (A0 : Option Addr) (c0 : Nat) (l0 : List Int) (r : List Int) (w : World) (hr0 : Kd.C (Kd.int .i64) w A0 l0.length l0) (hc0 : l0.length ≤ c0) (h : impl_distinct.f l0 = some r) :
    Calls Try.prog 74 #[.slice A0 l0.length c0] w fun e w' => ∃ v0_ : Value, e = .returned v0_ ∧ Kd.R (Kd.int .i64) 3 w' w.heap.size (fun _ => True) v0_ r ∧ Below w.heap.size w w' := by
  have hlt : l0.length < 17592186044416 := by
    unfold impl_distinct.f at h
    split at h
    · assumption
    · cases h
  obtain rfl : Lib.compact (l0.mergeSort fun x y => decide (x ≤ y)) = r := by unfold impl_distinct.f at h; rw [if_pos hlt] at h; exact Option.some.inj h
  have hcl := slices_Clone_int_int.calls A0 c0 l0 l0 w hr0 hc0 (by unfold slices_Clone_int_int.f; rw [if_pos hlt])
  have hso := fun (v : Value) (w1 : World) (hR : Kd.R (Kd.int .i64) 3 w1 w.heap.size (fun _ => True) v l0) (hB : Below w.heap.size w w1) => impl_distinct.sort w.heap.size v l0 w w1 (by omega) hR hB (Nat.le_refl _)
  have hl2 : (l0.mergeSort fun x y => decide (x ≤ y)).length = l0.length := List.length_mergeSort l0
  generalize l0.mergeSort (fun x y => decide (x ≤ y)) = s at hso hl2 ⊢
  have hco := fun (v : Value) (w1 : World) (hR : Kd.R (Kd.int .i64) 3 w1 w.heap.size (fun _ => True) v s) (hB : Below w.heap.size w w1) => impl_distinct.comp w.heap.size v s w w1 (by omega) hR hB
  generalize Lib.compact s = r at hco ⊢
  have HC : Aside0 _ := ⟨hcl⟩
  have HS : Aside0 _ := ⟨hso⟩
  have HD : Aside0 _ := ⟨hco⟩
  clear hcl hso hco hr0 h hlt hl2
  go_enter Try.func74, Try.ntmps74
  go_wp2_with (first | (go_at_call 89; refine HC.out.mono ?_; rintro e w1 ⟨v1, rfl, hR, hb⟩; have HR : Aside0 _ := ⟨hR⟩; have HB : Aside0 _ := ⟨hb⟩; clear hR hb) | (go_at_call 90; refine (HS.out _ _ HR.out HB.out).mono ?_; rintro e w2 ⟨rfl, hO, hb⟩; have HO : Aside0 _ := ⟨hO⟩; have HB2 : Aside0 _ := ⟨hb⟩; clear hO hb) | (go_at_call 91; refine (HD.out _ _ HO.out HB2.out).mono ?_; rintro e w3 ⟨v3, rfl, hO, hb⟩; have HO3 : Aside0 _ := ⟨hO⟩; have HB3 : Aside0 _ := ⟨hb⟩; clear hO hb))
  go_ret
  exact ⟨_, rfl, HO3.out, HB3.out⟩

end Go.Proofs.Ytllihaahppelhaa.P
