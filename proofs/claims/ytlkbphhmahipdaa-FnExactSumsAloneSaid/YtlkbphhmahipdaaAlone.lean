/- Calls of the functions of the given program return what the plain Lean functions of the same names return; and a row of a law out of its pure statement. Written by a program of this session out of the translation; Lean checks it. No condition. -/
import Derived.Test.YtlkbphhmahipdaaPx0
import Derived.Test.YtlkbphhmahipdaaPxHimplqcounted
import Derived.Test.YtlkbphhmahipdaaPxHimplqPairsLeft
import Derived.Test.YtlkbphhmahipdaaAl
import Derived.Test.YtlkbphhmahipdaaShl
import Derived.Sort.OwnSortedInts
import Derived.Maps.OwnSet
import Derived.Test.YtlkbphhmahipdaaPx1
import Derived.Test.YtlkbphhmahipdaaPxHspecqtaSay
import Derived.Test.YtlkbphhmahipdaaPxHspecqtaLeft
import Derived.Test.YtlkbphhmahipdaaPxHimplqisTalk
import Derived.Test.YtlkbphhmahipdaaPxHimplqisTrue
import Derived.Test.YtlkbphhmahipdaaPx25
import Derived.Test.YtlkbphhmahipdaaPxHspecqPairsLeft
namespace Go.Proofs.Ytlkbphhmahipdaa.P
open Go.RowKit Go.Proofs.YtlkbphhmahipdaaW.PrintWords Go.Proofs.YtlkbphhmahipdaaW.PrintLast Go.Proofs.YtlkbphhmahipdaaW.PrintMore
attribute [local go_sem] max2_int min2_int max_two min_two max_three min_three max_four min_four   -- for this text's walks alone
set_option linter.unusedVariables false
set_option linter.unusedSimpArgs false

/-! ### impl_alone: function 83, by hand -/
-- IMPORT Derived.Test.YtlkbphhmahipdaaAl
-- IMPORT Derived.Test.YtlkbphhmahipdaaShl
-- IMPORT Derived.Sort.OwnSortedInts
-- IMPORT Derived.Maps.OwnSet
theorem impl_alone.row_ne_map {H : Type} {P : Program} {k : TypeId} {R : Value → Option (DataW H × List MemPlace)} {W : World} {b n : Nat} {D : DataW H} {v : Value} {e : TypeId} (hv : ∀ k, v.ownBlock = some k → ∃ cells, W.heap[k]? = some (.cells cells e (0, 0))) (hr : W.ownsMap P k R b n D) : some b ≠ v.ownBlock := by
  obtain ⟨es, clock, hb, _⟩ := hr
  intro e1
  obtain ⟨cells, hc⟩ := hv b e1.symm
  rw [hb] at hc
  cases hc
theorem impl_alone.row_ne_it {H : Type} {P : Program} {k : TypeId} {R : Value → Option (DataW H × List MemPlace)} {W : World} {b r n : Nat} {D : DataW H} {left : Lit → Bool} {cnt : Nat} {v : Value} {e : TypeId} (hv : ∀ k, v.ownBlock = some k → ∃ cells, W.heap[k]? = some (.cells cells e (0, 0))) (hr : W.ranges P k R b r n D left cnt) : some r ≠ v.ownBlock := by
  obtain ⟨_, _, _, _, _, _, _, _, _, hit, _⟩ := hr
  intro e1
  obtain ⟨cells, hc⟩ := hv r e1.symm
  rw [hit] at hc
  cases hc
theorem impl_alone.R_it {H : Type} {P : Program} {k : TypeId} {R : Value → Option (DataW H × List MemPlace)} {W W1 : World} {b r n : Nat} {D : DataW H} {left : Lit → Bool} {cnt base : Nat} {v : Value} {xs : List Int} {e : TypeId} (h : Kd.R (Kd.int .i64) e W base (fun _ => True) v xs) (hr : W.ranges P k R b r n D left cnt) (hg : W.grownBy W1 (some r)) : Kd.R (Kd.int .i64) e W1 base (fun _ => True) v xs := by
  obtain ⟨_, _, _, _, _, _, _, _, _, hit, _⟩ := hr
  refine Kd.R_mono (Kd.R_move (Kd.R_bound h) (fun k hk => hg.block k hk.2.2.1 (fun e => ?_))) (fun _ _ => trivial)
  obtain ⟨_, _, _, q, _, cells, hc⟩ := hk
  injection e with e
  subst e
  rw [hit] at hc
  cases hc
theorem impl_alone.below_none {w w1 : World} (h : w.grownBy w1 none) : Below w.heap.size w w1 := ⟨h.os, h.tape, h.output, h.size, fun k hk => h.block k hk (by simp)⟩
/-- A row of whole numbers of the call's own is sorted. -/
theorem impl_alone.sort (base : Nat) (W : World) (v : Value) (zs : List Int) (h : Kd.R (Kd.int .i64) 3 W base (fun _ => True) v zs) (hl : zs.length ≤ 100000) :
    Calls Try.prog 117 #[v] W fun e w' => e = .returned (.tuple #[]) ∧ Kd.R (Kd.int .i64) 3 w' base (fun _ => True) v (zs.mergeSort fun x y => decide (x ≤ y)) ∧ W.grownBy w' v.ownBlock := by
  have hown := Kd.own_of_R h
  rcases hown.2 with ⟨rfl, h0⟩ | ⟨g, cap, cur, rfl, hbase, hb, h1, h2, h3, h4⟩
  · have hz : zs = [] := List.eq_nil_of_length_eq_zero h0
    subst hz
    exact (Try.slices_Sort_int_none none 0 W).mono fun e w' he => by
      obtain ⟨rfl, rfl⟩ := he
      exact ⟨rfl, by simpa using Kd.R_nil _ _ _ _ _, World.grownBy.refl _ _⟩
  · have e1 : encs (Value.int .i64) zs = zs.map (Value.int .i64) := by simp [encs]
    rw [e1] at h4
    exact (Try.slices_Sort_int g 0 cap zs W (holds_of_blockI hb (by simpa using h4)) (Array.getElem?_eq_some_iff.1 hb).1 (by omega)).mono fun e w' he => by
      obtain ⟨rfl, n, os, rfl⟩ := he
      refine ⟨rfl, ?_, grownBy_sortedI _⟩
      have hln : (zs.mergeSort fun x y => decide (x ≤ y)).length = zs.length := by simp
      have h5 := ownsRow_sortedI (w := W) (n := n) (os := os) (base := base) hln hbase hb h1 h2 h3
      refine Kd.R_of_own ?_ (fun _ _ => trivial)
      have e2 : encs (Value.int .i64) (zs.mergeSort fun x y => decide (x ≤ y)) = (zs.mergeSort fun x y => decide (x ≤ y)).map (Value.int .i64) := by simp [encs]
      rw [e2, hln]
      exact h5
set_option maxHeartbeats 4000000 in
set_option maxRecDepth 100000 in
theorem impl_alone.has (s : Bool) (n : Int) (talk : ByteArray) (hs : talk.size ≤ 1048576) (w : World) :
    Calls Try.prog 83 #[.int .i64 n, .string talk, .string (Tk.wh s)] w fun e w' => ∃ v : Value, e = .returned (.tuple #[v, .bool (impl_PairsLeft.ok n talk)]) ∧ Kd.R (Kd.int .i64) 3 w' w.heap.size (fun _ => True) v (Al.aln s (impl_PairsLeft.rows n talk)) ∧ Below w.heap.size w w' := by
  have TP : Aside0 (∀ W, Calls Try.prog 14 #[.int .i64 n, .string talk] W fun e w' => ∃ (A : Option Addr) (c : Nat) (ps : List Tk.PP), e = .returned (.tuple #[.slice A ps.length c, .bool (impl_PairsLeft.ok n talk)]) ∧ Aside0 (Tk.Has 36 3 w' W.heap.size W.heap.size (.slice A ps.length c) ps ∧ Tk.vals ps = impl_PairsLeft.rows n talk ∧ Tk.Ok ps ∧ Below W.heap.size W w')) := ⟨fun W => (impl_PairsLeft.has n talk hs W).mono fun e w' he => by
    obtain ⟨v, rfl, ps, h1, h2, h3, h4⟩ := he
    obtain ⟨A, c, rfl, _⟩ := h1.slice
    exact ⟨A, c, ps, rfl, ⟨h1, h2, h3, h4⟩⟩⟩
  clear hs
  cases hok : impl_PairsLeft.ok n talk with
  | false =>
    have e1 : impl_PairsLeft.rows n talk = [] := by unfold impl_PairsLeft.rows; rw [hok]; rfl
    rw [hok] at TP
    rw [e1, Al.aln_nil]
    clear e1 hok
    generalize Tk.wh s = wo
    go_enter Try.func83, Try.ntmps83
    go_wp2_with (go_at_call 14; refine (TP.out _).mono ?_; rintro e w2 ⟨A, c, ps, rfl, h2⟩)
    go_ret2
    exact ⟨_, rfl, Kd.R_nil _ _ _ _ _, h2.out.2.2.2⟩
  | true =>
    rw [hok] at TP
    clear hok
    have law := Go.Maps.int_keyed Try.underlying3
    have TC : Aside0 (∀ W base lo A c ps, Tk.Has 36 3 W base lo (.slice A ps.length c) ps → Tk.Ok ps → Calls Try.prog 110 #[.slice A ps.length c, .string (Tk.wh s)] W fun e w' => ∃ B, e = .returned (.map (some B)) ∧ Aside0 (Mp.MapI Try.prog 3 3 w' B ps.length (fun y => (Tk.cnt s (Tk.vals ps) y : Int)) ∧ W.heap.size ≤ B ∧ Below W.heap.size W w')) := ⟨fun W base lo A c ps h1 h2 => (impl_counted.has s base lo A c ps W h1 h2).mono fun e w' he => by
      obtain ⟨B, rfl, h3⟩ := he
      exact ⟨B, rfl, ⟨h3⟩⟩⟩
    have TS := Aside0.mk (fun base W v zs => impl_alone.sort base W v zs)
    generalize Tk.wh s = wo at TC ⊢
    go_enter Try.func83, Try.ntmps83
    go_wp2_with (first
      | (go_at_call 14; refine (TP.out _).mono ?_; rintro e w2 ⟨A, c, ps, rfl, h2⟩; clear TP)
      | ((with_reducible refine gate_dst (N := 21) rfl ?_); refine Kd.R_lit (Kd.int .i64) w.heap.size 3 ?hg (N := 21) ?hd (w0 := w) (xs := ([] : List Int)) (inner := []) (ok := fun _ => True) (okp := fun _ => True) ?hr ?hp (fun _ hk => hk) trivial h2.out.2.2.2 h2.out.2.2.2.size (by simp) ?_; (case hd => rfl); (case hg => rfl); (case hr => first | (go_simp; done) | (go_simp; rfl)); (case hp => exact (Reps.none _ _)); intro v3 w3 ho hb hg_ hnew_; have H3 := Aside0.mk (show _ ∧ _ ∧ Below w2.heap.size w2 w3 from ⟨ho, hb, impl_alone.below_none hg_⟩); clear ho hb hg_ hnew_)
      | (go_at_call 110; refine (TC.out _ _ _ _ _ _ (h2.out.1.below H3.out.2.2) h2.out.2.2.1).mono ?_; rintro e w4 ⟨B, rfl, h4⟩; clear TC)
      | (at_range; obtain ⟨D, hown, hD, hat⟩ := h4.out.1; refine wpList_range_own _ rfl _ 100 rfl 3 3 law Try.underlying100 _ B ps.length D rfl hown ?_; intro w5 hrg0 hg0 hs0; clear hown hD))
    (try go_frame)
    have R5 := Aside0.mk (show Kd.R (Kd.int .i64) 3 w5 w.heap.size (fun _ => True) v3 [] ∧ Below w.heap.size w w5 from
      ⟨Kd.R_below (Kd.R_below H3.out.1 h4.out.2.2) (impl_alone.below_none hg0), below_step (below_step H3.out.2.1 h4.out.2.2) (impl_alone.below_none hg0)⟩)
    have HB := Aside0.mk (show w.heap.size ≤ B from Nat.le_trans H3.out.2.1.size h4.out.2.1)
    have HR := Aside0.mk (show w.heap.size ≤ w4.heap.size from (below_step H3.out.2.1 h4.out.2.2).size)
    have HV := Aside0.mk (show (∀ x, (Lit.int .i64 x).wf = true → D.atKey (.int .i64 x) (.lit (.int .i64 0)) = .lit (.int .i64 (Tk.cnt s (Tk.vals ps) x : Int))) ∧ Tk.Ok ps ∧ Tk.vals ps = impl_PairsLeft.rows n talk from ⟨hat, h2.out.2.2.1, h2.out.2.1⟩)
    have HG0 := Aside0.mk hrg0
    have HSZ := Aside0.mk (show Maps.size D ≤ 2000 from Nat.le_trans hrg0.owns.size_le h2.out.2.2.1.1)
    generalize hr0 : w4.heap.size = r0 at HG0 HR ⊢
    clear hrg0 hg0 hs0 hr0 hat h2 h4 H3
    go_loopg [10] (Maps.size D) (fun gg s10 wr => ∃ (left : Lit → Bool) (cnt : Nat) (xs : List Int), cnt ≤ gg ∧ xs.length + cnt ≤ 2000 ∧ Aside0 (wr.ranges Try.prog 3 (plainElem Try.prog 3) B r0 ps.length D left cnt ∧ Al.Coll (fun y => (Tk.cnt s (Tk.vals ps) y : Int)) left xs ∧ Kd.R (Kd.int .i64) 3 wr w.heap.size (fun _ => True) s10 xs ∧ Below w.heap.size w wr))
    case atStart => exact ⟨_, _, [], Nat.le_refl _, by have := HSZ.out; simp; omega, ⟨HG0.out, Al.Coll.start HV.out.1, R5.out.1, R5.out.2⟩⟩
    case round =>
      obtain ⟨left, cnt, xs, hcg, hlc, HH⟩ := hrel
      clear HG0 R5
      have hrg := HH.out.1
      go_wp2_with (first
        | (at_next; refine wpList_next_ranges_ii _ rfl _ rfl 3 3 .i64 .i64 law Try.underlying3 Try.underlying3 B r0 ps.length _ _ _ rfl hrg ?_ ?_))
      · intro hc0 hl0
        clear hrg
        have HL := Aside0.mk (HH.out.2.1.done hl0)
        clear hl0
        go_wp2_with (go_at_call 117; refine (TS.out w.heap.size _ _ xs HH.out.2.2.1 (by omega)).mono ?_; rintro e w6 ⟨rfl, hR6, hg6⟩; have H6 := Aside0.mk (show _ ∧ _ from ⟨hR6, hg6⟩); clear hR6 hg6)
        go_ret2
        refine ⟨_, rfl, ?_, HH.out.2.2.2.grown H6.out.2 HH.out.2.2.2.size (fun k hk => Kd.R_base HH.out.2.2.1 k hk)⟩
        have e := Al.sort_eq 1601 (Tk.cnt s (Tk.vals ps)) xs HL.out.1 (fun x => Al.done_mem s ps HV.out.2.1 xs HL.out.2 x)
        have h7 := H6.out.1
        rw [e] at h7
        rw [← HV.out.2.2]
        exact h7
      · intro x c w1 cnt1 hwx hwc hlx hat1 hrg1 hlt hg1 hs1 hen
        have HC1 := Aside0.mk (show (Tk.cnt s (Tk.vals ps) x : Int) = c from by
          have := (HV.out.1 x hwx).symm.trans (hat1 _)
          injection this with this
          injection this)
        have H1 := Aside0.mk (show w1.ranges Try.prog 3 (plainElem Try.prog 3) B r0 ps.length D (fun z => left z && !z.sameKey (.int .i64 x)) cnt1 ∧ Kd.R (Kd.int .i64) 3 w1 w.heap.size (fun _ => True) u10 xs ∧ Below w.heap.size w w1 ∧ left (.int .i64 x) = true ∧ (Lit.int .i64 x).wf = true from
          ⟨hrg1, impl_alone.R_it HH.out.2.2.1 HH.out.1 hg1, HH.out.2.2.2.grown hg1 HH.out.2.2.2.size (fun j hj => by cases hj; exact HR.out), hlx, hwx⟩)
        clear hwx hwc hlx hat1 hrg1 hg1 hs1 hrg
        by_cases hc : c = 1
        · subst hc
          go_wp2_with (first
            | ((with_reducible refine gate_builtin (b := .append) (xs := #[.tmp 33, .tmp 35]) rfl ?_); at_builtin; refine Kd.R_append (Kd.int .i64) (w0 := w) w.heap.size rfl (.tmp 33) (.tmp 35) 36 3 (.int .i64 0) 8 rfl Try.underlying36 (by kernel_rfl) rfl (by decide) (by omega) u10 xs x [.int .i64 x] (fun _ => True) (fun _ => False) rfl (by first | (go_simp; done) | (go_simp; rfl)) rfl (fun _ hk => hk.elim) (fun _ _ => trivial) H1.out.2.1 H1.out.2.2.1 H1.out.2.2.1.size (by omega) ?_; intro v9 w9 ho hb hg hat; have HO9 := Aside0.mk (show _ ∧ _ ∧ _ from ⟨ho, hb, hg⟩); clear ho hb hg hat))
          go_roundg cnt1
          case measure => omega
          case rel =>
            refine ⟨_, cnt1, xs ++ [x], Nat.le_refl _, by simp; omega, ⟨H1.out.1.kept HO9.out.2.2 (impl_alone.row_ne_map (Kd.R_typed H1.out.2.1) H1.out.1.owns) (impl_alone.row_ne_it (Kd.R_typed H1.out.2.1) H1.out.1), HH.out.2.1.hit H1.out.2.2.2.2 H1.out.2.2.2.1 HC1.out, HO9.out.1, HO9.out.2.1⟩⟩
        · go_wp2
          go_roundg cnt1
          case measure => omega
          case rel => exact ⟨_, cnt1, xs, Nat.le_refl _, by omega, ⟨H1.out.1, HH.out.2.1.miss (by rw [HC1.out]; exact hc), H1.out.2.1, H1.out.2.2.1⟩⟩

end Go.Proofs.Ytlkbphhmahipdaa.P
namespace Go.Proofs.Ytlkbphhmahipdaa.P
open Go.RowKit Go.Proofs.YtlkbphhmahipdaaW.PrintWords Go.Proofs.YtlkbphhmahipdaaW.PrintLast Go.Proofs.YtlkbphhmahipdaaW.PrintMore
attribute [local go_sem] max2_int min2_int max_two min_two max_three min_three max_four min_four   -- for this text's walks alone
set_option linter.unusedVariables false
set_option linter.unusedSimpArgs false

/-! ### spec_taAlone: function 82, by hand -/
-- IMPORT Derived.Test.YtlkbphhmahipdaaAl
set_option maxHeartbeats 4000000 in
set_option maxRecDepth 100000 in
theorem spec_taAlone.has (s : Bool) (base lo : Nat) (v : Value) (ps : List Tk.PP) (w : World) (hH : Tk.Has 36 3 w base lo v ps) (hok : Tk.Ok ps) :
    Calls Try.prog 82 #[v, .string (Tk.wh s)] w fun e w' => ∃ v0_ : Value, e = .returned v0_ ∧ Kd.R (Kd.int .i64) 3 w' w.heap.size (fun _ => True) v0_ (Al.aln s (Tk.vals ps)) ∧ Below w.heap.size w w' := by
  obtain ⟨A, c, rfl, hc, _⟩ := hH.slice
  have TC : Aside0 (Calls Try.prog 109 #[.slice A ps.length c, .string (Tk.wh s)] w fun e w' => ∃ A' c', e = .returned (.slice A' 1601 c') ∧ Aside0 (Kd.C (Kd.int .i64) w' A' 1601 (spec_taCounts.cl s (Tk.vals ps)) ∧ Below w.heap.size w w')) := ⟨by
    have h1 := spec_taCounts.calls (ps.length + 1) A c (Tk.vals ps) (Tk.wh s) _ w hH.C (by rw [Tk.vals_len]; exact hc) (spec_taCounts.told s ps hok)
    rw [Tk.vals_len] at h1
    exact h1.mono fun e w' he => by
      obtain ⟨v', rfl, hR, hb⟩ := he
      obtain ⟨A', c', rfl, _, hC⟩ := Kd.R_reads hR
      rw [spec_taCounts.cl_len] at hC ⊢
      exact ⟨A', c', rfl, ⟨hC, hb⟩⟩⟩
  have HCL := Aside0.mk (show ∀ v : Int, 0 ≤ v → v < 1601 → rd (spec_taCounts.cl s (Tk.vals ps)) v = (Tk.cnt s (Tk.vals ps) v : Int) from fun v h0 h1 => spec_taCounts.cl_at s (Tk.vals ps) v ⟨h0, h1⟩)
  have HCN := Aside0.mk (show (spec_taCounts.cl s (Tk.vals ps)).length = 1601 from spec_taCounts.cl_len _ _)
  unfold Al.aln
  generalize spec_taCounts.cl s (Tk.vals ps) = cl at TC HCL HCN
  generalize Tk.cnt s (Tk.vals ps) = cn at HCL ⊢
  generalize Tk.wh s = wo at TC ⊢
  generalize ps.length = m at TC ⊢
  clear hH hok hc
  go_enter Try.func82, Try.ntmps82
  go_wp2_with (go_at_call 109; refine TC.out.mono ?_; rintro e w2 ⟨A', c', rfl, h2⟩; clear TC)
  obtain ⟨ad, eA, hcells⟩ : ∃ ad, A' = some ad ∧ ∀ i, i < 1601 → w2.cell? (ad.add i) = some (.int .i64 (cn (i : Int) : Int)) := by
    have hC := h2.out.1
    have hl := HCN.out
    rw [← hl] at hC
    obtain ⟨ad, e, _⟩ := Hlp.int_at hC 0 (by omega)
    refine ⟨ad, e, fun i hi => ?_⟩
    obtain ⟨ad', e', h'⟩ := Hlp.int_at hC i (by omega)
    rw [e] at e'
    injection e' with e'
    subst e'
    rw [h']
    have := HCL.out (i : Int) (by omega) (by omega)
    rw [← this]
    simp [rd, List.getD_eq_getElem?_getD, List.getElem?_eq_getElem (show i < cl.length by omega)]
  subst eA
  have HCE := Aside0.mk hcells
  clear hcells HCL HCN
  go_loopg [5, 12] 1601 (fun gg s5 s12 wr => ∃ q : Nat, s12 = .int .i64 (q : Int) ∧ q ≤ 1601 ∧ 1601 - q ≤ gg ∧ Aside0 (Kd.R (Kd.int .i64) 3 wr w2.heap.size (fun _ => True) s5 (Al.alnN q cn) ∧ Below w2.heap.size w2 wr))
  case atStart => exact ⟨0, rfl, by omega, by omega, ⟨Kd.R_nil _ _ _ _ _, Below.refl _ _⟩⟩
  case round =>
    obtain ⟨q, rfl, hq, hgg, HS⟩ := hrel
    by_cases hq1 : q < 1601
    · have hqz : (q : Int) < 1601 := by omega
      have hlen := Al.alnN_len q cn
      have hcell : wr.cell? (ad.add q) = some (.int .i64 (cn (q : Int) : Int)) := by
        have h1 := HCE.out q hq1
        exact pw_cell_below HS.out.2 h1
      by_cases h1 : cn (q : Int) = 1
      · have hL := Aside0.mk (Al.alnN_yes q cn h1)
        have h1z : (cn (q : Int) : Int) = 1 := by omega
        rw [h1z] at hcell
        clear h1z h1
        generalize Al.alnN q cn = xs at HS hL hlen
        go_wp2_with (first
          | ((with_reducible refine gate_builtin (b := .append) (xs := #[.tmp 19, .tmp 21]) rfl ?_); at_builtin; refine Kd.R_append (Kd.int .i64) (w0 := w2) w2.heap.size rfl (.tmp 19) (.tmp 21) 36 3 (.int .i64 0) 8 rfl Try.underlying36 (by kernel_rfl) rfl (by decide) (by omega) u5 xs (q : Int) [.int .i64 (q : Int)] (fun _ => True) (fun _ => False) rfl (by first | (go_simp; done) | (go_simp; rfl)) rfl (fun _ hk => hk.elim) (fun _ _ => trivial) HS.out.1 HS.out.2 HS.out.2.size (by omega) ?_; intro v9 w9 ho hb hg hat; have HO9 := Aside0.mk (show _ ∧ _ from ⟨ho, hb⟩); clear ho hb hg hat))
        go_roundg (1601 - (q + 1))
        case measure => omega
        case rel => exact ⟨q + 1, by go_num, by omega, by omega, ⟨by rw [hL.out]; exact HO9.out.1, HO9.out.2⟩⟩
      · have hL := Aside0.mk (Al.alnN_no q cn h1)
        have h1z : ¬ (cn (q : Int) : Int) = 1 := by omega
        clear h1
        go_wp2
        go_roundg (1601 - (q + 1))
        case measure => omega
        case rel => exact ⟨q + 1, by go_num, by omega, by omega, ⟨by rw [hL.out]; exact HS.out.1, HS.out.2⟩⟩
    · obtain rfl : q = 1601 := by omega
      go_wp2
      go_ret
      exact ⟨_, rfl, Kd.R_lower HS.out.1 h2.out.2.size, below_step h2.out.2 HS.out.2⟩

end Go.Proofs.Ytlkbphhmahipdaa.P
namespace Go.Proofs.Ytlkbphhmahipdaa.P
open Go.RowKit Go.Proofs.YtlkbphhmahipdaaW.PrintWords Go.Proofs.YtlkbphhmahipdaaW.PrintLast Go.Proofs.YtlkbphhmahipdaaW.PrintMore
attribute [local go_sem] max2_int min2_int max_two min_two max_three min_three max_four min_four   -- for this text's walks alone
set_option linter.unusedVariables false
set_option linter.unusedSimpArgs false

/-! ### impl_SumsAlone: function 29, by hand -/
-- IMPORT Derived.Test.YtlkbphhmahipdaaAl
def impl_SumsAlone.f (n : Int) (talk : ByteArray) : Option (List Int × Bool) := if talk.size ≤ 1048576 then some (Al.aln true (impl_PairsLeft.rows n talk), impl_PairsLeft.ok n talk) else none
set_option maxHeartbeats 4000000 in
set_option maxRecDepth 100000 in
theorem impl_SumsAlone.calls (n : Int) (talk : ByteArray) (r1 : List Int) (r2 : Bool) (w : World) (h : impl_SumsAlone.f n talk = some (r1, r2)) :
    Calls Try.prog 29 #[.int .i64 n, .string talk] w fun e w' => ∃ v0_ : Value, e = .returned (.tuple #[v0_, .bool r2]) ∧ Kd.R (Kd.int .i64) 3 w' w.heap.size (fun _ => True) v0_ r1 ∧ Below w.heap.size w w' := by
  have hc : talk.size ≤ 1048576 := by
    unfold impl_SumsAlone.f at h
    split at h
    · assumption
    · cases h
  unfold impl_SumsAlone.f at h
  rw [if_pos hc] at h
  obtain ⟨rfl, rfl⟩ := Prod.mk.inj (Option.some.inj h)
  have T : Aside0 (∀ W, Calls Try.prog 83 #[.int .i64 n, .string talk, .string ⟨#[115]⟩] W fun e w' => ∃ v : Value, e = .returned (.tuple #[v, .bool (impl_PairsLeft.ok n talk)]) ∧ Aside0 (Kd.R (Kd.int .i64) 3 w' W.heap.size (fun _ => True) v (Al.aln true (impl_PairsLeft.rows n talk)) ∧ Below W.heap.size W w')) := ⟨fun W => (impl_alone.has true n talk hc W).mono fun e w' he => by
    obtain ⟨v, rfl, h1, h2⟩ := he
    exact ⟨v, rfl, ⟨h1, h2⟩⟩⟩
  clear h hc
  go_enter Try.func29, Try.ntmps29
  go_wp2_with (go_at_call 83; refine (T.out _).mono ?_; rintro e w2 ⟨v, rfl, h2⟩)
  go_ret2
  exact ⟨_, rfl, h2.out.1, h2.out.2⟩

end Go.Proofs.Ytlkbphhmahipdaa.P
namespace Go.Proofs.Ytlkbphhmahipdaa.P
open Go.RowKit Go.Proofs.YtlkbphhmahipdaaW.PrintWords Go.Proofs.YtlkbphhmahipdaaW.PrintLast Go.Proofs.YtlkbphhmahipdaaW.PrintMore
attribute [local go_sem] max2_int min2_int max_two min_two max_three min_three max_four min_four   -- for this text's walks alone
set_option linter.unusedVariables false
set_option linter.unusedSimpArgs false

/-! ### spec_SumsAlone: function 28, by hand -/
-- IMPORT Derived.Test.YtlkbphhmahipdaaAl
def spec_SumsAlone.f (k : Nat) (n : Int) (talk : ByteArray) : Option (List Int × Bool) := if spec_taTalk.f k talk = some (impl_isTalk.ok talk) then some (Al.aln true (impl_PairsLeft.rows n talk), impl_PairsLeft.ok n talk) else none
theorem spec_SumsAlone.mono (n : Int) (talk : ByteArray) (k : Nat) : LeO (spec_SumsAlone.f k n talk) (spec_SumsAlone.f (k + 1) n talk) := by
  intro r h
  unfold spec_SumsAlone.f at h ⊢
  by_cases hk : spec_taTalk.f k talk = some (impl_isTalk.ok talk)
  · rw [if_pos (spec_taTalk.mono talk k _ hk)]
    rw [if_pos hk] at h
    exact h
  · rw [if_neg hk] at h
    cases h
set_option maxHeartbeats 4000000 in
set_option maxRecDepth 100000 in
theorem spec_SumsAlone.calls (k : Nat) (n : Int) (talk : ByteArray) (r1 : List Int) (r2 : Bool) (w : World) (h : spec_SumsAlone.f k n talk = some (r1, r2)) :
    Calls Try.prog 28 #[.int .i64 n, .string talk] w fun e w' => ∃ v0_ : Value, e = .returned (.tuple #[v0_, .bool r2]) ∧ Kd.R (Kd.int .i64) 3 w' w.heap.size (fun _ => True) v0_ r1 ∧ Below w.heap.size w w' := by
  have hk : spec_taTalk.f k talk = some (impl_isTalk.ok talk) := by
    unfold spec_SumsAlone.f at h
    split at h
    · assumption
    · cases h
  unfold spec_SumsAlone.f at h
  rw [if_pos hk] at h
  obtain ⟨rfl, rfl⟩ := Prod.mk.inj (Option.some.inj h)
  clear h
  have TB : Aside0 (∀ W, Calls Try.prog 72 #[.int .i64 n, .string talk] W fun e w' => e = .returned (.bool (impl_PairsLeft.ok n talk)) ∧ Aside0 (Below W.heap.size W w')) := ⟨fun W => (spec_taBoth.calls k n talk _ W (spec_taBoth.told n talk k hk)).mono fun e w' h => ⟨h.1, ⟨h.2.below⟩⟩⟩
  clear hk
  cases hok : impl_PairsLeft.ok n talk with
  | false =>
    rw [hok] at TB
    have e0 : impl_PairsLeft.rows n talk = [] := by unfold impl_PairsLeft.rows; rw [hok]; rfl
    rw [e0, Al.aln_nil]
    clear hok e0
    go_enter Try.func28, Try.ntmps28
    go_wp2_with (go_at_call 72; refine (TB.out _).mono ?_; rintro e w2 ⟨rfl, h2⟩)
    go_ret2
    exact ⟨_, rfl, Kd.R_nil _ _ _ _ _, h2.out⟩
  | true =>
    have hc : (2 ≤ n ∧ n ≤ 40) ∧ impl_isTalk.ok talk = true := by simpa [impl_PairsLeft.ok] using hok
    obtain ⟨h1, h2, h3, h4⟩ := impl_isTrue.parts talk hc.2
    have e0 : impl_PairsLeft.rows n talk = impl_isTrue.lft n talk := by unfold impl_PairsLeft.rows; rw [if_pos hok]
    have TL : Aside0 (∀ W, Calls Try.prog 73 #[.int .i64 n, .string talk] W fun e w' => ∃ (v : Value) (ps : List Tk.PP), e = .returned v ∧ Aside0 (Tk.Has 36 3 w' W.heap.size W.heap.size v ps ∧ Tk.vals ps = impl_PairsLeft.rows n talk ∧ Tk.Ok ps ∧ Below W.heap.size W w')) := ⟨fun W => by
      obtain ⟨m, rfl⟩ := Int.eq_ofNat_of_zero_le (show 0 ≤ n by omega)
      exact (spec_taLeft.has m (by omega) talk (talk.size / 2) (by omega) h1 _ _ h3 h4 W).mono fun e w' he => by
        obtain ⟨v, rfl, ps, h1, h2, h3, h4⟩ := he
        exact ⟨v, ps, rfl, ⟨h1, by rw [e0]; exact h2, h3, h4⟩⟩⟩
    have TA : Aside0 (∀ base lo v ps W, Tk.Has 36 3 W base lo v ps → Tk.Ok ps → Calls Try.prog 82 #[v, .string ⟨#[115]⟩] W fun e w' => ∃ v0_ : Value, e = .returned v0_ ∧ Aside0 (Kd.R (Kd.int .i64) 3 w' W.heap.size (fun _ => True) v0_ (Al.aln true (Tk.vals ps)) ∧ Below W.heap.size W w')) := ⟨fun base lo v ps W h1 h2 => (spec_taAlone.has true base lo v ps W h1 h2).mono fun e w' he => by
      obtain ⟨v0_, rfl, h3, h4⟩ := he
      exact ⟨v0_, rfl, ⟨h3, h4⟩⟩⟩
    rw [hok] at TB
    clear hok hc h1 h2 h3 h4 e0
    go_enter Try.func28, Try.ntmps28
    go_wp2_with (first
      | (go_at_call 72; refine (TB.out _).mono ?_; rintro e w2 ⟨rfl, h2⟩)
      | (go_at_call 73; refine (TL.out _).mono ?_; rintro e w3 ⟨v3, ps, rfl, h3⟩)
      | (go_at_call 82; refine (TA.out _ _ _ _ _ h3.out.1 h3.out.2.2.1).mono ?_; rintro e w4 ⟨v4, rfl, h4⟩))
    go_ret2
    exact ⟨_, rfl, by rw [← h3.out.2.1]; exact Kd.R_lower h4.out.1 (below_step h2.out h3.out.2.2.2).size, below_step (below_step h2.out h3.out.2.2.2) h4.out.2⟩

end Go.Proofs.Ytlkbphhmahipdaa.P
namespace Go.Proofs.Ytlkbphhmahipdaa.P
open Go.RowKit Go.Proofs.YtlkbphhmahipdaaW.PrintWords Go.Proofs.YtlkbphhmahipdaaW.PrintLast Go.Proofs.YtlkbphhmahipdaaW.PrintMore
attribute [local go_sem] max2_int min2_int max_two min_two max_three min_three max_four min_four   -- for this text's walks alone
set_option linter.unusedVariables false
set_option linter.unusedSimpArgs false

/-! ### impl_ProductsAlone: function 31, by hand -/
-- IMPORT Derived.Test.YtlkbphhmahipdaaAl
def impl_ProductsAlone.f (n : Int) (talk : ByteArray) : Option (List Int × Bool) := if talk.size ≤ 1048576 then some (Al.aln false (impl_PairsLeft.rows n talk), impl_PairsLeft.ok n talk) else none
set_option maxHeartbeats 4000000 in
set_option maxRecDepth 100000 in
theorem impl_ProductsAlone.calls (n : Int) (talk : ByteArray) (r1 : List Int) (r2 : Bool) (w : World) (h : impl_ProductsAlone.f n talk = some (r1, r2)) :
    Calls Try.prog 31 #[.int .i64 n, .string talk] w fun e w' => ∃ v0_ : Value, e = .returned (.tuple #[v0_, .bool r2]) ∧ Kd.R (Kd.int .i64) 3 w' w.heap.size (fun _ => True) v0_ r1 ∧ Below w.heap.size w w' := by
  have hc : talk.size ≤ 1048576 := by
    unfold impl_ProductsAlone.f at h
    split at h
    · assumption
    · cases h
  unfold impl_ProductsAlone.f at h
  rw [if_pos hc] at h
  obtain ⟨rfl, rfl⟩ := Prod.mk.inj (Option.some.inj h)
  have T : Aside0 (∀ W, Calls Try.prog 83 #[.int .i64 n, .string talk, .string ⟨#[112]⟩] W fun e w' => ∃ v : Value, e = .returned (.tuple #[v, .bool (impl_PairsLeft.ok n talk)]) ∧ Aside0 (Kd.R (Kd.int .i64) 3 w' W.heap.size (fun _ => True) v (Al.aln false (impl_PairsLeft.rows n talk)) ∧ Below W.heap.size W w')) := ⟨fun W => (impl_alone.has false n talk hc W).mono fun e w' he => by
    obtain ⟨v, rfl, h1, h2⟩ := he
    exact ⟨v, rfl, ⟨h1, h2⟩⟩⟩
  clear h hc
  go_enter Try.func31, Try.ntmps31
  go_wp2_with (go_at_call 83; refine (T.out _).mono ?_; rintro e w2 ⟨v, rfl, h2⟩)
  go_ret2
  exact ⟨_, rfl, h2.out.1, h2.out.2⟩

end Go.Proofs.Ytlkbphhmahipdaa.P
namespace Go.Proofs.Ytlkbphhmahipdaa.P
open Go.RowKit Go.Proofs.YtlkbphhmahipdaaW.PrintWords Go.Proofs.YtlkbphhmahipdaaW.PrintLast Go.Proofs.YtlkbphhmahipdaaW.PrintMore
attribute [local go_sem] max2_int min2_int max_two min_two max_three min_three max_four min_four   -- for this text's walks alone
set_option linter.unusedVariables false
set_option linter.unusedSimpArgs false

/-! ### spec_ProductsAlone: function 30, by hand -/
-- IMPORT Derived.Test.YtlkbphhmahipdaaAl
def spec_ProductsAlone.f (k : Nat) (n : Int) (talk : ByteArray) : Option (List Int × Bool) := if spec_taTalk.f k talk = some (impl_isTalk.ok talk) then some (Al.aln false (impl_PairsLeft.rows n talk), impl_PairsLeft.ok n talk) else none
theorem spec_ProductsAlone.mono (n : Int) (talk : ByteArray) (k : Nat) : LeO (spec_ProductsAlone.f k n talk) (spec_ProductsAlone.f (k + 1) n talk) := by
  intro r h
  unfold spec_ProductsAlone.f at h ⊢
  by_cases hk : spec_taTalk.f k talk = some (impl_isTalk.ok talk)
  · rw [if_pos (spec_taTalk.mono talk k _ hk)]
    rw [if_pos hk] at h
    exact h
  · rw [if_neg hk] at h
    cases h
set_option maxHeartbeats 4000000 in
set_option maxRecDepth 100000 in
theorem spec_ProductsAlone.calls (k : Nat) (n : Int) (talk : ByteArray) (r1 : List Int) (r2 : Bool) (w : World) (h : spec_ProductsAlone.f k n talk = some (r1, r2)) :
    Calls Try.prog 30 #[.int .i64 n, .string talk] w fun e w' => ∃ v0_ : Value, e = .returned (.tuple #[v0_, .bool r2]) ∧ Kd.R (Kd.int .i64) 3 w' w.heap.size (fun _ => True) v0_ r1 ∧ Below w.heap.size w w' := by
  have hk : spec_taTalk.f k talk = some (impl_isTalk.ok talk) := by
    unfold spec_ProductsAlone.f at h
    split at h
    · assumption
    · cases h
  unfold spec_ProductsAlone.f at h
  rw [if_pos hk] at h
  obtain ⟨rfl, rfl⟩ := Prod.mk.inj (Option.some.inj h)
  clear h
  have TB : Aside0 (∀ W, Calls Try.prog 72 #[.int .i64 n, .string talk] W fun e w' => e = .returned (.bool (impl_PairsLeft.ok n talk)) ∧ Aside0 (Below W.heap.size W w')) := ⟨fun W => (spec_taBoth.calls k n talk _ W (spec_taBoth.told n talk k hk)).mono fun e w' h => ⟨h.1, ⟨h.2.below⟩⟩⟩
  clear hk
  cases hok : impl_PairsLeft.ok n talk with
  | false =>
    rw [hok] at TB
    have e0 : impl_PairsLeft.rows n talk = [] := by unfold impl_PairsLeft.rows; rw [hok]; rfl
    rw [e0, Al.aln_nil]
    clear hok e0
    go_enter Try.func30, Try.ntmps30
    go_wp2_with (go_at_call 72; refine (TB.out _).mono ?_; rintro e w2 ⟨rfl, h2⟩)
    go_ret2
    exact ⟨_, rfl, Kd.R_nil _ _ _ _ _, h2.out⟩
  | true =>
    have hc : (2 ≤ n ∧ n ≤ 40) ∧ impl_isTalk.ok talk = true := by simpa [impl_PairsLeft.ok] using hok
    obtain ⟨h1, h2, h3, h4⟩ := impl_isTrue.parts talk hc.2
    have e0 : impl_PairsLeft.rows n talk = impl_isTrue.lft n talk := by unfold impl_PairsLeft.rows; rw [if_pos hok]
    have TL : Aside0 (∀ W, Calls Try.prog 73 #[.int .i64 n, .string talk] W fun e w' => ∃ (v : Value) (ps : List Tk.PP), e = .returned v ∧ Aside0 (Tk.Has 36 3 w' W.heap.size W.heap.size v ps ∧ Tk.vals ps = impl_PairsLeft.rows n talk ∧ Tk.Ok ps ∧ Below W.heap.size W w')) := ⟨fun W => by
      obtain ⟨m, rfl⟩ := Int.eq_ofNat_of_zero_le (show 0 ≤ n by omega)
      exact (spec_taLeft.has m (by omega) talk (talk.size / 2) (by omega) h1 _ _ h3 h4 W).mono fun e w' he => by
        obtain ⟨v, rfl, ps, h1, h2, h3, h4⟩ := he
        exact ⟨v, ps, rfl, ⟨h1, by rw [e0]; exact h2, h3, h4⟩⟩⟩
    have TA : Aside0 (∀ base lo v ps W, Tk.Has 36 3 W base lo v ps → Tk.Ok ps → Calls Try.prog 82 #[v, .string ⟨#[112]⟩] W fun e w' => ∃ v0_ : Value, e = .returned v0_ ∧ Aside0 (Kd.R (Kd.int .i64) 3 w' W.heap.size (fun _ => True) v0_ (Al.aln false (Tk.vals ps)) ∧ Below W.heap.size W w')) := ⟨fun base lo v ps W h1 h2 => (spec_taAlone.has false base lo v ps W h1 h2).mono fun e w' he => by
      obtain ⟨v0_, rfl, h3, h4⟩ := he
      exact ⟨v0_, rfl, ⟨h3, h4⟩⟩⟩
    rw [hok] at TB
    clear hok hc h1 h2 h3 h4 e0
    go_enter Try.func30, Try.ntmps30
    go_wp2_with (first
      | (go_at_call 72; refine (TB.out _).mono ?_; rintro e w2 ⟨rfl, h2⟩)
      | (go_at_call 73; refine (TL.out _).mono ?_; rintro e w3 ⟨v3, ps, rfl, h3⟩)
      | (go_at_call 82; refine (TA.out _ _ _ _ _ h3.out.1 h3.out.2.2.1).mono ?_; rintro e w4 ⟨v4, rfl, h4⟩))
    go_ret2
    exact ⟨_, rfl, by rw [← h3.out.2.1]; exact Kd.R_lower h4.out.1 (below_step h2.out h3.out.2.2.2).size, below_step (below_step h2.out h3.out.2.2.2) h4.out.2⟩

end Go.Proofs.Ytlkbphhmahipdaa.P
