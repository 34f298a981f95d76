/- Calls of the functions of the given program return what the plain Lean functions of the same names return; and a row of a law out of its pure statement. Written by a program of this session out of the translation; Lean checks it. No condition. -/
import Derived.Test.YtlkbphhmahipdaaPx0
import Derived.Test.YtlkbphhmahipdaaF0
import Derived.Test.YtlkbphhmahipdaaF2
import Derived.Test.YtlkbphhmahipdaaAl
import Derived.Test.YtlkbphhmahipdaaShl
import Derived.Sort.OwnSortedInts
import Derived.Maps.OwnSet
namespace Go.Proofs.Ytlkbphhmahipdaa.P
open Go.RowKit Go.Proofs.YtlkbphhmahipdaaW.PrintWords Go.Proofs.YtlkbphhmahipdaaW.PrintLast Go.Proofs.YtlkbphhmahipdaaW.PrintMore
attribute [local go_sem] max2_int min2_int max_two min_two max_three min_three max_four min_four   -- for this text's walks alone
set_option linter.unusedVariables false
set_option linter.unusedSimpArgs false

/-! ### impl_alone: function 83, by hand -/
-- IMPORT Derived.Test.YtlkbphhmahipdaaAl
-- IMPORT Derived.Test.YtlkbphhmahipdaaShl
-- IMPORT Derived.Sort.OwnSortedInts
-- IMPORT Derived.Maps.OwnSet
theorem impl_alone.row_ne_map {H : Type} {P : Program} {k : TypeId} {R : Value → Option (DataW H × List MemPlace)} {W : World} {b n : Nat} {D : DataW H} {v : Value} {e : TypeId} (hv : ∀ k, v.ownBlock = some k → ∃ cells, W.heap[k]? = some (.cells cells e (0, 0))) (hr : W.ownsMap P k R b n D) : some b ≠ v.ownBlock := by
  obtain ⟨es, clock, hb, _⟩ := hr
  intro e1
  obtain ⟨cells, hc⟩ := hv b e1.symm
  rw [hb] at hc
  cases hc
theorem impl_alone.row_ne_it {H : Type} {P : Program} {k : TypeId} {R : Value → Option (DataW H × List MemPlace)} {W : World} {b r n : Nat} {D : DataW H} {left : Lit → Bool} {cnt : Nat} {v : Value} {e : TypeId} (hv : ∀ k, v.ownBlock = some k → ∃ cells, W.heap[k]? = some (.cells cells e (0, 0))) (hr : W.ranges P k R b r n D left cnt) : some r ≠ v.ownBlock := by
  obtain ⟨_, _, _, _, _, _, _, _, _, hit, _⟩ := hr
  intro e1
  obtain ⟨cells, hc⟩ := hv r e1.symm
  rw [hit] at hc
  cases hc
theorem impl_alone.R_it {H : Type} {P : Program} {k : TypeId} {R : Value → Option (DataW H × List MemPlace)} {W W1 : World} {b r n : Nat} {D : DataW H} {left : Lit → Bool} {cnt base : Nat} {v : Value} {xs : List Int} {e : TypeId} (h : Kd.R (Kd.int .i64) e W base (fun _ => True) v xs) (hr : W.ranges P k R b r n D left cnt) (hg : W.grownBy W1 (some r)) : Kd.R (Kd.int .i64) e W1 base (fun _ => True) v xs := by
  obtain ⟨_, _, _, _, _, _, _, _, _, hit, _⟩ := hr
  refine Kd.R_mono (Kd.R_move (Kd.R_bound h) (fun k hk => hg.block k hk.2.2.1 (fun e => ?_))) (fun _ _ => trivial)
  obtain ⟨_, _, _, q, _, cells, hc⟩ := hk
  injection e with e
  subst e
  rw [hit] at hc
  cases hc
theorem impl_alone.below_none {w w1 : World} (h : w.grownBy w1 none) : Below w.heap.size w w1 := ⟨h.os, h.tape, h.output, h.size, fun k hk => h.block k hk (by simp)⟩
/-- A row of whole numbers of the call's own is sorted. -/
theorem impl_alone.sort (base : Nat) (W : World) (v : Value) (zs : List Int) (h : Kd.R (Kd.int .i64) 3 W base (fun _ => True) v zs) (hl : zs.length ≤ 100000) :
    Calls Try.prog 117 #[v] W fun e w' => e = .returned (.tuple #[]) ∧ Kd.R (Kd.int .i64) 3 w' base (fun _ => True) v (zs.mergeSort fun x y => decide (x ≤ y)) ∧ W.grownBy w' v.ownBlock := by
  have hown := Kd.own_of_R h
  rcases hown.2 with ⟨rfl, h0⟩ | ⟨g, cap, cur, rfl, hbase, hb, h1, h2, h3, h4⟩
  · have hz : zs = [] := List.eq_nil_of_length_eq_zero h0
    subst hz
    exact (Try.slices_Sort_int_none none 0 W).mono fun e w' he => by
      obtain ⟨rfl, rfl⟩ := he
      exact ⟨rfl, by simpa using Kd.R_nil _ _ _ _ _, World.grownBy.refl _ _⟩
  · have e1 : encs (Value.int .i64) zs = zs.map (Value.int .i64) := by simp [encs]
    rw [e1] at h4
    exact (Try.slices_Sort_int g 0 cap zs W (holds_of_blockI hb (by simpa using h4)) (Array.getElem?_eq_some_iff.1 hb).1 (by omega)).mono fun e w' he => by
      obtain ⟨rfl, n, os, rfl⟩ := he
      refine ⟨rfl, ?_, grownBy_sortedI _⟩
      have hln : (zs.mergeSort fun x y => decide (x ≤ y)).length = zs.length := by simp
      have h5 := ownsRow_sortedI (w := W) (n := n) (os := os) (base := base) hln hbase hb h1 h2 h3
      refine Kd.R_of_own ?_ (fun _ _ => trivial)
      have e2 : encs (Value.int .i64) (zs.mergeSort fun x y => decide (x ≤ y)) = (zs.mergeSort fun x y => decide (x ≤ y)).map (Value.int .i64) := by simp [encs]
      rw [e2, hln]
      exact h5
set_option maxHeartbeats 4000000 in
set_option maxRecDepth 100000 in
theorem impl_alone.has (s : Bool) (n : Int) (talk : ByteArray) (hs : talk.size ≤ 1048576) (w : World) :
    Calls Try.prog 83 #[.int .i64 n, .string talk, .string (Tk.wh s)] w fun e w' => ∃ v : Value, e = .returned (.tuple #[v, .bool (impl_PairsLeft.ok n talk)]) ∧ Kd.R (Kd.int .i64) 3 w' w.heap.size (fun _ => True) v (Al.aln s (impl_PairsLeft.rows n talk)) ∧ Below w.heap.size w w' := by
  have TP : Aside0 (∀ W, Calls Try.prog 14 #[.int .i64 n, .string talk] W fun e w' => ∃ (A : Option Addr) (c : Nat) (ps : List Tk.PP), e = .returned (.tuple #[.slice A ps.length c, .bool (impl_PairsLeft.ok n talk)]) ∧ Aside0 (Tk.Has 36 3 w' W.heap.size W.heap.size (.slice A ps.length c) ps ∧ Tk.vals ps = impl_PairsLeft.rows n talk ∧ Tk.Ok ps ∧ Below W.heap.size W w')) := ⟨fun W => (impl_PairsLeft.has n talk hs W).mono fun e w' he => by
    obtain ⟨v, rfl, ps, h1, h2, h3, h4⟩ := he
    obtain ⟨A, c, rfl, _⟩ := h1.slice
    exact ⟨A, c, ps, rfl, ⟨h1, h2, h3, h4⟩⟩⟩
  clear hs
  cases hok : impl_PairsLeft.ok n talk with
  | false =>
    have e1 : impl_PairsLeft.rows n talk = [] := by unfold impl_PairsLeft.rows; rw [hok]; rfl
    rw [hok] at TP
    rw [e1, Al.aln_nil]
    clear e1 hok
    generalize Tk.wh s = wo
    go_enter Try.func83, Try.ntmps83
    go_wp2_with (go_at_call 14; refine (TP.out _).mono ?_; rintro e w2 ⟨A, c, ps, rfl, h2⟩)
    go_ret2
    exact ⟨_, rfl, Kd.R_nil _ _ _ _ _, h2.out.2.2.2⟩
  | true =>
    rw [hok] at TP
    clear hok
    have law := Go.Maps.int_keyed Try.underlying3
    have TC : Aside0 (∀ W base lo A c ps, Tk.Has 36 3 W base lo (.slice A ps.length c) ps → Tk.Ok ps → Calls Try.prog 110 #[.slice A ps.length c, .string (Tk.wh s)] W fun e w' => ∃ B, e = .returned (.map (some B)) ∧ Aside0 (Mp.MapI Try.prog 3 3 w' B ps.length (fun y => (Tk.cnt s (Tk.vals ps) y : Int)) ∧ W.heap.size ≤ B ∧ Below W.heap.size W w')) := ⟨fun W base lo A c ps h1 h2 => (impl_counted.has s base lo A c ps W h1 h2).mono fun e w' he => by
      obtain ⟨B, rfl, h3⟩ := he
      exact ⟨B, rfl, ⟨h3⟩⟩⟩
    have TS := Aside0.mk (fun base W v zs => impl_alone.sort base W v zs)
    generalize Tk.wh s = wo at TC ⊢
    go_enter Try.func83, Try.ntmps83
    go_wp2_with (first
      | (go_at_call 14; refine (TP.out _).mono ?_; rintro e w2 ⟨A, c, ps, rfl, h2⟩; clear TP)
      | ((with_reducible refine gate_dst (N := 21) rfl ?_); refine Kd.R_lit (Kd.int .i64) w.heap.size 3 ?hg (N := 21) ?hd (w0 := w) (xs := ([] : List Int)) (inner := []) (ok := fun _ => True) (okp := fun _ => True) ?hr ?hp (fun _ hk => hk) trivial h2.out.2.2.2 h2.out.2.2.2.size (by simp) ?_; (case hd => rfl); (case hg => rfl); (case hr => first | (go_simp; done) | (go_simp; rfl)); (case hp => exact (Reps.none _ _)); intro v3 w3 ho hb hg_ hnew_; have H3 := Aside0.mk (show _ ∧ _ ∧ Below w2.heap.size w2 w3 from ⟨ho, hb, impl_alone.below_none hg_⟩); clear ho hb hg_ hnew_)
      | (go_at_call 110; refine (TC.out _ _ _ _ _ _ (h2.out.1.below H3.out.2.2) h2.out.2.2.1).mono ?_; rintro e w4 ⟨B, rfl, h4⟩; clear TC)
      | (at_range; obtain ⟨D, hown, hD, hat⟩ := h4.out.1; refine wpList_range_own _ rfl _ 100 rfl 3 3 law Try.underlying100 _ B ps.length D rfl hown ?_; intro w5 hrg0 hg0 hs0; clear hown hD))
    (try go_frame)
    have R5 := Aside0.mk (show Kd.R (Kd.int .i64) 3 w5 w.heap.size (fun _ => True) v3 [] ∧ Below w.heap.size w w5 from
      ⟨Kd.R_below (Kd.R_below H3.out.1 h4.out.2.2) (impl_alone.below_none hg0), below_step (below_step H3.out.2.1 h4.out.2.2) (impl_alone.below_none hg0)⟩)
    have HB := Aside0.mk (show w.heap.size ≤ B from Nat.le_trans H3.out.2.1.size h4.out.2.1)
    have HR := Aside0.mk (show w.heap.size ≤ w4.heap.size from (below_step H3.out.2.1 h4.out.2.2).size)
    have HV := Aside0.mk (show (∀ x, (Lit.int .i64 x).wf = true → D.atKey (.int .i64 x) (.lit (.int .i64 0)) = .lit (.int .i64 (Tk.cnt s (Tk.vals ps) x : Int))) ∧ Tk.Ok ps ∧ Tk.vals ps = impl_PairsLeft.rows n talk from ⟨hat, h2.out.2.2.1, h2.out.2.1⟩)
    have HG0 := Aside0.mk hrg0
    have HSZ := Aside0.mk (show Maps.size D ≤ 2000 from Nat.le_trans hrg0.owns.size_le h2.out.2.2.1.1)
    generalize hr0 : w4.heap.size = r0 at HG0 HR ⊢
    clear hrg0 hg0 hs0 hr0 hat h2 h4 H3
    go_loopg [10] (Maps.size D) (fun gg s10 wr => ∃ (left : Lit → Bool) (cnt : Nat) (xs : List Int), cnt ≤ gg ∧ xs.length + cnt ≤ 2000 ∧ Aside0 (wr.ranges Try.prog 3 (plainElem Try.prog 3) B r0 ps.length D left cnt ∧ Al.Coll (fun y => (Tk.cnt s (Tk.vals ps) y : Int)) left xs ∧ Kd.R (Kd.int .i64) 3 wr w.heap.size (fun _ => True) s10 xs ∧ Below w.heap.size w wr))
    case atStart => exact ⟨_, _, [], Nat.le_refl _, by have := HSZ.out; simp; omega, ⟨HG0.out, Al.Coll.start HV.out.1, R5.out.1, R5.out.2⟩⟩
    case round =>
      obtain ⟨left, cnt, xs, hcg, hlc, HH⟩ := hrel
      clear HG0 R5
      have hrg := HH.out.1
      go_wp2_with (first
        | (at_next; refine wpList_next_ranges_ii _ rfl _ rfl 3 3 .i64 .i64 law Try.underlying3 Try.underlying3 B r0 ps.length _ _ _ rfl hrg ?_ ?_))
      · intro hc0 hl0
        clear hrg
        have HL := Aside0.mk (HH.out.2.1.done hl0)
        clear hl0
        go_wp2_with (go_at_call 117; refine (TS.out w.heap.size _ _ xs HH.out.2.2.1 (by omega)).mono ?_; rintro e w6 ⟨rfl, hR6, hg6⟩; have H6 := Aside0.mk (show _ ∧ _ from ⟨hR6, hg6⟩); clear hR6 hg6)
        go_ret2
        refine ⟨_, rfl, ?_, HH.out.2.2.2.grown H6.out.2 HH.out.2.2.2.size (fun k hk => Kd.R_base HH.out.2.2.1 k hk)⟩
        have e := Al.sort_eq 1601 (Tk.cnt s (Tk.vals ps)) xs HL.out.1 (fun x => Al.done_mem s ps HV.out.2.1 xs HL.out.2 x)
        have h7 := H6.out.1
        rw [e] at h7
        rw [← HV.out.2.2]
        exact h7
      · intro x c w1 cnt1 hwx hwc hlx hat1 hrg1 hlt hg1 hs1 hen
        have HC1 := Aside0.mk (show (Tk.cnt s (Tk.vals ps) x : Int) = c from by
          have := (HV.out.1 x hwx).symm.trans (hat1 _)
          injection this with this
          injection this)
        have H1 := Aside0.mk (show w1.ranges Try.prog 3 (plainElem Try.prog 3) B r0 ps.length D (fun z => left z && !z.sameKey (.int .i64 x)) cnt1 ∧ Kd.R (Kd.int .i64) 3 w1 w.heap.size (fun _ => True) u10 xs ∧ Below w.heap.size w w1 ∧ left (.int .i64 x) = true ∧ (Lit.int .i64 x).wf = true from
          ⟨hrg1, impl_alone.R_it HH.out.2.2.1 HH.out.1 hg1, HH.out.2.2.2.grown hg1 HH.out.2.2.2.size (fun j hj => by cases hj; exact HR.out), hlx, hwx⟩)
        clear hwx hwc hlx hat1 hrg1 hg1 hs1 hrg
        by_cases hc : c = 1
        · subst hc
          go_wp2_with (first
            | ((with_reducible refine gate_builtin (b := .append) (xs := #[.tmp 33, .tmp 35]) rfl ?_); at_builtin; refine Kd.R_append (Kd.int .i64) (w0 := w) w.heap.size rfl (.tmp 33) (.tmp 35) 36 3 (.int .i64 0) 8 rfl Try.underlying36 (by kernel_rfl) rfl (by decide) (by omega) u10 xs x [.int .i64 x] (fun _ => True) (fun _ => False) rfl (by first | (go_simp; done) | (go_simp; rfl)) rfl (fun _ hk => hk.elim) (fun _ _ => trivial) H1.out.2.1 H1.out.2.2.1 H1.out.2.2.1.size (by omega) ?_; intro v9 w9 ho hb hg hat; have HO9 := Aside0.mk (show _ ∧ _ ∧ _ from ⟨ho, hb, hg⟩); clear ho hb hg hat))
          go_roundg cnt1
          case measure => omega
          case rel =>
            refine ⟨_, cnt1, xs ++ [x], Nat.le_refl _, by simp; omega, ⟨H1.out.1.kept HO9.out.2.2 (impl_alone.row_ne_map (Kd.R_typed H1.out.2.1) H1.out.1.owns) (impl_alone.row_ne_it (Kd.R_typed H1.out.2.1) H1.out.1), HH.out.2.1.hit H1.out.2.2.2.2 H1.out.2.2.2.1 HC1.out, HO9.out.1, HO9.out.2.1⟩⟩
        · go_wp2
          go_roundg cnt1
          case measure => omega
          case rel => exact ⟨_, cnt1, xs, Nat.le_refl _, by omega, ⟨H1.out.1, HH.out.2.1.miss (by rw [HC1.out]; exact hc), H1.out.2.1, H1.out.2.2.1⟩⟩

end Go.Proofs.Ytlkbphhmahipdaa.P
namespace Go.Proofs.Ytlkbphhmahipdaa.P
open Go.RowKit Go.Proofs.YtlkbphhmahipdaaW.PrintWords Go.Proofs.YtlkbphhmahipdaaW.PrintLast Go.Proofs.YtlkbphhmahipdaaW.PrintMore
attribute [local go_sem] max2_int min2_int max_two min_two max_three min_three max_four min_four   -- for this text's walks alone
set_option linter.unusedVariables false
set_option linter.unusedSimpArgs false

/-! ### impl_SumsAlone: function 29, by hand -/
-- IMPORT Derived.Test.YtlkbphhmahipdaaAl
def impl_SumsAlone.f (n : Int) (talk : ByteArray) : Option (List Int × Bool) := if talk.size ≤ 1048576 then some (Al.aln true (impl_PairsLeft.rows n talk), impl_PairsLeft.ok n talk) else none
set_option maxHeartbeats 4000000 in
set_option maxRecDepth 100000 in
theorem impl_SumsAlone.calls (n : Int) (talk : ByteArray) (r1 : List Int) (r2 : Bool) (w : World) (h : impl_SumsAlone.f n talk = some (r1, r2)) :
    Calls Try.prog 29 #[.int .i64 n, .string talk] w fun e w' => ∃ v0_ : Value, e = .returned (.tuple #[v0_, .bool r2]) ∧ Kd.R (Kd.int .i64) 3 w' w.heap.size (fun _ => True) v0_ r1 ∧ Below w.heap.size w w' := by
  have hc : talk.size ≤ 1048576 := by
    unfold impl_SumsAlone.f at h
    split at h
    · assumption
    · cases h
  unfold impl_SumsAlone.f at h
  rw [if_pos hc] at h
  obtain ⟨rfl, rfl⟩ := Prod.mk.inj (Option.some.inj h)
  have T : Aside0 (∀ W, Calls Try.prog 83 #[.int .i64 n, .string talk, .string ⟨#[115]⟩] W fun e w' => ∃ v : Value, e = .returned (.tuple #[v, .bool (impl_PairsLeft.ok n talk)]) ∧ Aside0 (Kd.R (Kd.int .i64) 3 w' W.heap.size (fun _ => True) v (Al.aln true (impl_PairsLeft.rows n talk)) ∧ Below W.heap.size W w')) := ⟨fun W => (impl_alone.has true n talk hc W).mono fun e w' he => by
    obtain ⟨v, rfl, h1, h2⟩ := he
    exact ⟨v, rfl, ⟨h1, h2⟩⟩⟩
  clear h hc
  go_enter Try.func29, Try.ntmps29
  go_wp2_with (go_at_call 83; refine (T.out _).mono ?_; rintro e w2 ⟨v, rfl, h2⟩)
  go_ret2
  exact ⟨_, rfl, h2.out.1, h2.out.2⟩

end Go.Proofs.Ytlkbphhmahipdaa.P
namespace Go.Proofs.Ytlkbphhmahipdaa.P
open Go.RowKit Go.Proofs.YtlkbphhmahipdaaW.PrintWords Go.Proofs.YtlkbphhmahipdaaW.PrintLast Go.Proofs.YtlkbphhmahipdaaW.PrintMore
attribute [local go_sem] max2_int min2_int max_two min_two max_three min_three max_four min_four   -- for this text's walks alone
set_option linter.unusedVariables false
set_option linter.unusedSimpArgs false

/-! ### spec_ProductsAlone: function 30, by hand -/
-- IMPORT Derived.Test.YtlkbphhmahipdaaAl
def spec_ProductsAlone.f (k : Nat) (n : Int) (talk : ByteArray) : Option (List Int × Bool) := if spec_taTalk.f k talk = some (impl_isTalk.ok talk) then some (Al.aln false (impl_PairsLeft.rows n talk), impl_PairsLeft.ok n talk) else none
theorem spec_ProductsAlone.mono (n : Int) (talk : ByteArray) (k : Nat) : LeO (spec_ProductsAlone.f k n talk) (spec_ProductsAlone.f (k + 1) n talk) := by
  intro r h
  unfold spec_ProductsAlone.f at h ⊢
  by_cases hk : spec_taTalk.f k talk = some (impl_isTalk.ok talk)
  · rw [if_pos (spec_taTalk.mono talk k _ hk)]
    rw [if_pos hk] at h
    exact h
  · rw [if_neg hk] at h
    cases h
set_option maxHeartbeats 4000000 in
set_option maxRecDepth 100000 in
theorem spec_ProductsAlone.calls (k : Nat) (n : Int) (talk : ByteArray) (r1 : List Int) (r2 : Bool) (w : World) (h : spec_ProductsAlone.f k n talk = some (r1, r2)) :
    Calls Try.prog 30 #[.int .i64 n, .string talk] w fun e w' => ∃ v0_ : Value, e = .returned (.tuple #[v0_, .bool r2]) ∧ Kd.R (Kd.int .i64) 3 w' w.heap.size (fun _ => True) v0_ r1 ∧ Below w.heap.size w w' := by
  have hk : spec_taTalk.f k talk = some (impl_isTalk.ok talk) := by
    unfold spec_ProductsAlone.f at h
    split at h
    · assumption
    · cases h
  unfold spec_ProductsAlone.f at h
  rw [if_pos hk] at h
  obtain ⟨rfl, rfl⟩ := Prod.mk.inj (Option.some.inj h)
  clear h
  have TB : Aside0 (∀ W, Calls Try.prog 72 #[.int .i64 n, .string talk] W fun e w' => e = .returned (.bool (impl_PairsLeft.ok n talk)) ∧ Aside0 (Below W.heap.size W w')) := ⟨fun W => (spec_taBoth.calls k n talk _ W (spec_taBoth.told n talk k hk)).mono fun e w' h => ⟨h.1, ⟨h.2.below⟩⟩⟩
  clear hk
  cases hok : impl_PairsLeft.ok n talk with
  | false =>
    rw [hok] at TB
    have e0 : impl_PairsLeft.rows n talk = [] := by unfold impl_PairsLeft.rows; rw [hok]; rfl
    rw [e0, Al.aln_nil]
    clear hok e0
    go_enter Try.func30, Try.ntmps30
    go_wp2_with (go_at_call 72; refine (TB.out _).mono ?_; rintro e w2 ⟨rfl, h2⟩)
    go_ret2
    exact ⟨_, rfl, Kd.R_nil _ _ _ _ _, h2.out⟩
  | true =>
    have hc : (2 ≤ n ∧ n ≤ 40) ∧ impl_isTalk.ok talk = true := by simpa [impl_PairsLeft.ok] using hok
    obtain ⟨h1, h2, h3, h4⟩ := impl_isTrue.parts talk hc.2
    have e0 : impl_PairsLeft.rows n talk = impl_isTrue.lft n talk := by unfold impl_PairsLeft.rows; rw [if_pos hok]
    have TL : Aside0 (∀ W, Calls Try.prog 73 #[.int .i64 n, .string talk] W fun e w' => ∃ (v : Value) (ps : List Tk.PP), e = .returned v ∧ Aside0 (Tk.Has 36 3 w' W.heap.size W.heap.size v ps ∧ Tk.vals ps = impl_PairsLeft.rows n talk ∧ Tk.Ok ps ∧ Below W.heap.size W w')) := ⟨fun W => by
      obtain ⟨m, rfl⟩ := Int.eq_ofNat_of_zero_le (show 0 ≤ n by omega)
      exact (spec_taLeft.has m (by omega) talk (talk.size / 2) (by omega) h1 _ _ h3 h4 W).mono fun e w' he => by
        obtain ⟨v, rfl, ps, h1, h2, h3, h4⟩ := he
        exact ⟨v, ps, rfl, ⟨h1, by rw [e0]; exact h2, h3, h4⟩⟩⟩
    have TA : Aside0 (∀ base lo v ps W, Tk.Has 36 3 W base lo v ps → Tk.Ok ps → Calls Try.prog 82 #[v, .string ⟨#[112]⟩] W fun e w' => ∃ v0_ : Value, e = .returned v0_ ∧ Aside0 (Kd.R (Kd.int .i64) 3 w' W.heap.size (fun _ => True) v0_ (Al.aln false (Tk.vals ps)) ∧ Below W.heap.size W w')) := ⟨fun base lo v ps W h1 h2 => (spec_taAlone.has false base lo v ps W h1 h2).mono fun e w' he => by
      obtain ⟨v0_, rfl, h3, h4⟩ := he
      exact ⟨v0_, rfl, ⟨h3, h4⟩⟩⟩
    rw [hok] at TB
    clear hok hc h1 h2 h3 h4 e0
    go_enter Try.func30, Try.ntmps30
    go_wp2_with (first
      | (go_at_call 72; refine (TB.out _).mono ?_; rintro e w2 ⟨rfl, h2⟩)
      | (go_at_call 73; refine (TL.out _).mono ?_; rintro e w3 ⟨v3, ps, rfl, h3⟩)
      | (go_at_call 82; refine (TA.out _ _ _ _ _ h3.out.1 h3.out.2.2.1).mono ?_; rintro e w4 ⟨v4, rfl, h4⟩))
    go_ret2
    exact ⟨_, rfl, by rw [← h3.out.2.1]; exact Kd.R_lower h4.out.1 (below_step h2.out h3.out.2.2.2).size, below_step (below_step h2.out h3.out.2.2.2) h4.out.2⟩

end Go.Proofs.Ytlkbphhmahipdaa.P
namespace Go.Proofs.Ytlkbphhmahipdaa.P
open Go.RowKit Go.Proofs.YtlkbphhmahipdaaW.PrintWords Go.Proofs.YtlkbphhmahipdaaW.PrintLast Go.Proofs.YtlkbphhmahipdaaW.PrintMore
attribute [local go_sem] max2_int min2_int max_two min_two max_three min_three max_four min_four   -- for this text's walks alone
set_option linter.unusedVariables false
set_option linter.unusedSimpArgs false

/-! ### impl_ProductsAlone: function 31, by hand -/
-- IMPORT Derived.Test.YtlkbphhmahipdaaAl
def impl_ProductsAlone.f (n : Int) (talk : ByteArray) : Option (List Int × Bool) := if talk.size ≤ 1048576 then some (Al.aln false (impl_PairsLeft.rows n talk), impl_PairsLeft.ok n talk) else none
set_option maxHeartbeats 4000000 in
set_option maxRecDepth 100000 in
theorem impl_ProductsAlone.calls (n : Int) (talk : ByteArray) (r1 : List Int) (r2 : Bool) (w : World) (h : impl_ProductsAlone.f n talk = some (r1, r2)) :
    Calls Try.prog 31 #[.int .i64 n, .string talk] w fun e w' => ∃ v0_ : Value, e = .returned (.tuple #[v0_, .bool r2]) ∧ Kd.R (Kd.int .i64) 3 w' w.heap.size (fun _ => True) v0_ r1 ∧ Below w.heap.size w w' := by
  have hc : talk.size ≤ 1048576 := by
    unfold impl_ProductsAlone.f at h
    split at h
    · assumption
    · cases h
  unfold impl_ProductsAlone.f at h
  rw [if_pos hc] at h
  obtain ⟨rfl, rfl⟩ := Prod.mk.inj (Option.some.inj h)
  have T : Aside0 (∀ W, Calls Try.prog 83 #[.int .i64 n, .string talk, .string ⟨#[112]⟩] W fun e w' => ∃ v : Value, e = .returned (.tuple #[v, .bool (impl_PairsLeft.ok n talk)]) ∧ Aside0 (Kd.R (Kd.int .i64) 3 w' W.heap.size (fun _ => True) v (Al.aln false (impl_PairsLeft.rows n talk)) ∧ Below W.heap.size W w')) := ⟨fun W => (impl_alone.has false n talk hc W).mono fun e w' he => by
    obtain ⟨v, rfl, h1, h2⟩ := he
    exact ⟨v, rfl, ⟨h1, h2⟩⟩⟩
  clear h hc
  go_enter Try.func31, Try.ntmps31
  go_wp2_with (go_at_call 83; refine (T.out _).mono ?_; rintro e w2 ⟨v, rfl, h2⟩)
  go_ret2
  exact ⟨_, rfl, h2.out.1, h2.out.2⟩

end Go.Proofs.Ytlkbphhmahipdaa.P
namespace Go.Proofs.Ytlkbphhmahipdaa.P
open Go.RowKit Go.Proofs.YtlkbphhmahipdaaW.PrintWords Go.Proofs.YtlkbphhmahipdaaW.PrintLast Go.Proofs.YtlkbphhmahipdaaW.PrintMore
attribute [local go_sem] max2_int min2_int max_two min_two max_three min_three max_four min_four   -- for this text's walks alone
set_option linter.unusedVariables false
set_option linter.unusedSimpArgs false

/-! ### laws_big: function 32 -/
def laws_big.f (l0 : List Int) (l1 : List Int) : Option (Bool) := if (l0.length : Int) > 1048576 then (some true) else (some (decide ((l1.length : Int) > (wrap64 (1048576 - (l0.length : Int))))))
set_option maxHeartbeats 8000000 in
set_option maxRecDepth 100000 in
theorem laws_big.calls (A0 : Option Addr) (c0 : Nat) (l0 : List Int) (A1 : Option Addr) (c1 : Nat) (l1 : List Int) (r : Bool) (w : World) (hr0 : Kd.C (Kd.int .u8) w A0 l0.length l0) (hc0 : l0.length ≤ c0) (hr1 : Kd.C (Kd.int .u8) w A1 l1.length l1) (hc1 : l1.length ≤ c1) (h : laws_big.f l0 l1 = some r) :
    Calls Try.prog 32 #[.slice A0 l0.length c0, .slice A1 l1.length c1] w fun e w' => e = .returned (.bool r) ∧ Drawn0 w w' := by
  have HR0 := Aside0.mk hr0
  have HC0 := Aside0.mk hc0
  clear hr0 hc0
  have HR1 := Aside0.mk hr1
  have HC1 := Aside0.mk hc1
  clear hr1 hc1
  have H : (if (l0.length : Int) > 1048576 then (some true) else (some (decide ((l1.length : Int) > (wrap64 (1048576 - (l0.length : Int))))))) = some r := h
  clear h
  by_cases c3 : (l0.length : Int) > 1048576
  · rw [if_pos c3] at H
    have c3b0 : decide (1048576 < (l0.length : Int)) = true := decide_eq_true c3
    have c3b1 : decide (1048576 < l0.length) = true := decide_eq_true (by omega)
    clear c3
    obtain rfl := Option.some.inj H
    go_enter Try.func32, Try.ntmps32
    go_wp2
    go_ret
    exact ⟨by first | rfl | (simp; done) | (simp [*]; done), by repeat (first | exact Drawn0.refl _ | apply Drawn0.step)⟩
  · rw [if_neg c3] at H
    have c3b0 : decide (1048576 < (l0.length : Int)) = false := decide_eq_false c3
    have c3b1 : decide (1048576 < l0.length) = false := decide_eq_false (by omega)
    clear c3
    obtain rfl := Option.some.inj H
    go_enter Try.func32, Try.ntmps32
    go_wp2
    go_ret
    exact ⟨by first | rfl | (simp; done) | (simp [*]; done), by repeat (first | exact Drawn0.refl _ | apply Drawn0.step)⟩

/-! ### impl_isPair: function 80 -/
def impl_isPair.f (a0 : Int) (a1 : Int) (a2 : Int) : Option (Bool) := (impl_isMost.f a0).bind fun t121 => (if t121 = true then ((impl_between.f a1 1 a2).bind fun t122 => (if t122 = true then ((impl_between.f a2 1 a0).bind fun t123 => (some t123)) else (some false))) else (some false))
set_option maxHeartbeats 8000000 in
set_option maxRecDepth 100000 in
theorem impl_isPair.calls (a0 : Int) (a1 : Int) (a2 : Int) (r : Bool) (w : World) (h : impl_isPair.f a0 a1 a2 = some r) :
    Calls Try.prog 80 #[.int .i64 a0, .int .i64 a1, .int .i64 a2] w fun e w' => e = .returned (.bool r) ∧ Drawn0 w w' := by
  have H : ((impl_isMost.f a0).bind fun t121 => (if t121 = true then ((impl_between.f a1 1 a2).bind fun t122 => (if t122 = true then ((impl_between.f a2 1 a0).bind fun t123 => (some t123)) else (some false))) else (some false))) = some r := h
  clear h
  replace H := Option.bind_eq_some_iff.mp H
  obtain ⟨t121, A40, H⟩ := H
  replace H : (if t121 = true then ((impl_between.f a1 1 a2).bind fun t122 => (if t122 = true then ((impl_between.f a2 1 a0).bind fun t123 => (some t123)) else (some false))) else (some false)) = some r := H
  have A4 := Aside0.mk A40
  clear A40
  by_cases c5 : t121 = true
  · subst c5
    have H1 : ((impl_between.f a1 1 a2).bind fun t122 => (if t122 = true then ((impl_between.f a2 1 a0).bind fun t123 => (some t123)) else (some false))) = some r := by rw [if_pos rfl] at H; exact H
    clear H
    have H := H1
    clear H1
    replace H := Option.bind_eq_some_iff.mp H
    obtain ⟨t122, A60, H⟩ := H
    replace H : (if t122 = true then ((impl_between.f a2 1 a0).bind fun t123 => (some t123)) else (some false)) = some r := H
    have A6 := Aside0.mk A60
    clear A60
    by_cases c7 : t122 = true
    · subst c7
      have H1 : ((impl_between.f a2 1 a0).bind fun t123 => (some t123)) = some r := by rw [if_pos rfl] at H; exact H
      clear H
      have H := H1
      clear H1
      replace H := Option.bind_eq_some_iff.mp H
      obtain ⟨t123, A80, H⟩ := H
      replace H : (some t123) = some r := H
      have A8 := Aside0.mk A80
      clear A80
      obtain rfl := Option.some.inj H
      go_enter Try.func80, Try.ntmps80
      go_wp2_with (first | ((with_reducible refine gate_callee (f := 74) rfl ?_); refine goesL_ (some 8) rfl rfl Try.func74 (by kernel_rfl) rfl #[.int .i64 a0] rfl (by (try simp only [List.map_toArray, List.map_cons, List.map_nil]); first | done | rfl | (simp only [List.length_drop, List.length_take]; rfl)) ?_; (with_reducible refine (impl_isMost.calls a0 true _ A4.out).mono ?_); rintro e w' ⟨rfl, ⟨nd, rfl⟩⟩; refine ⟨_, rfl, ?_⟩) | (go_at_call 107; (with_reducible refine (impl_between.calls a1 1 a2 true _ A6.out).mono ?_); rintro e w' ⟨rfl, ⟨nd, rfl⟩⟩) | (go_at_call 107; (with_reducible refine (impl_between.calls a2 1 a0 t123 _ A8.out).mono ?_); rintro e w' ⟨rfl, ⟨nd, rfl⟩⟩))
      go_ret
      exact ⟨by first | rfl | (simp; done) | (simp [*]; done), by repeat (first | exact Drawn0.refl _ | apply Drawn0.step)⟩
    · replace c7 := Bool.eq_false_iff.mpr c7
      subst c7
      have H1 : (some false) = some r := by rw [if_neg (show ¬ (false = true) by decide)] at H; exact H
      clear H
      have H := H1
      clear H1
      obtain rfl := Option.some.inj H
      go_enter Try.func80, Try.ntmps80
      go_wp2_with (first | ((with_reducible refine gate_callee (f := 74) rfl ?_); refine goesL_ (some 8) rfl rfl Try.func74 (by kernel_rfl) rfl #[.int .i64 a0] rfl (by (try simp only [List.map_toArray, List.map_cons, List.map_nil]); first | done | rfl | (simp only [List.length_drop, List.length_take]; rfl)) ?_; (with_reducible refine (impl_isMost.calls a0 true _ A4.out).mono ?_); rintro e w' ⟨rfl, ⟨nd, rfl⟩⟩; refine ⟨_, rfl, ?_⟩) | (go_at_call 107; (with_reducible refine (impl_between.calls a1 1 a2 false _ A6.out).mono ?_); rintro e w' ⟨rfl, ⟨nd, rfl⟩⟩))
      go_ret
      exact ⟨by first | rfl | (simp; done) | (simp [*]; done), by repeat (first | exact Drawn0.refl _ | apply Drawn0.step)⟩
  · replace c5 := Bool.eq_false_iff.mpr c5
    subst c5
    have H1 : (some false) = some r := by rw [if_neg (show ¬ (false = true) by decide)] at H; exact H
    clear H
    have H := H1
    clear H1
    obtain rfl := Option.some.inj H
    go_enter Try.func80, Try.ntmps80
    go_wp2_with (first | ((with_reducible refine gate_callee (f := 74) rfl ?_); refine goesL_ (some 8) rfl rfl Try.func74 (by kernel_rfl) rfl #[.int .i64 a0] rfl (by (try simp only [List.map_toArray, List.map_cons, List.map_nil]); first | done | rfl | (simp only [List.length_drop, List.length_take]; rfl)) ?_; (with_reducible refine (impl_isMost.calls a0 false _ A4.out).mono ?_); rintro e w' ⟨rfl, ⟨nd, rfl⟩⟩; refine ⟨_, rfl, ?_⟩))
    go_ret
    exact ⟨by first | rfl | (simp; done) | (simp [*]; done), by repeat (first | exact Drawn0.refl _ | apply Drawn0.step)⟩

end Go.Proofs.Ytlkbphhmahipdaa.P
namespace Go.Proofs.Ytlkbphhmahipdaa.P
open Go.RowKit Go.Proofs.YtlkbphhmahipdaaW.PrintWords Go.Proofs.YtlkbphhmahipdaaW.PrintLast Go.Proofs.YtlkbphhmahipdaaW.PrintMore
attribute [local go_sem] max2_int min2_int max_two min_two max_three min_three max_four min_four   -- for this text's walks alone
set_option linter.unusedVariables false
set_option linter.unusedSimpArgs false

/-! ### impl_IsTrueTalk: function 38 -/
def impl_IsTrueTalk.f (a0 : Int) (a1 : Int) (a2 : Int) (a3 : ByteArray) : Option (Bool × Bool) := (impl_isPair.f a0 a1 a2).bind fun t124 => (if t124 = true then ((impl_isTalk.f a3).bind fun t125 => (if t125 = true then ((impl_isTrue.f a0 a1 a2 a3).bind fun t126 => (some (t126, true))) else (some (false, false)))) else (some (false, false)))
set_option maxHeartbeats 8000000 in
set_option maxRecDepth 100000 in
theorem impl_IsTrueTalk.calls (a0 : Int) (a1 : Int) (a2 : Int) (a3 : ByteArray) (r1 : Bool) (r2 : Bool) (w : World) (h : impl_IsTrueTalk.f a0 a1 a2 a3 = some (r1, r2)) :
    Calls Try.prog 38 #[.int .i64 a0, .int .i64 a1, .int .i64 a2, .string a3] w fun e w' => e = .returned (.tuple #[.bool r1, .bool r2]) ∧ Below w.heap.size w w' := by
  have HB := Aside0.mk (Below.refl w.heap.size w)
  have H : ((impl_isPair.f a0 a1 a2).bind fun t124 => (if t124 = true then ((impl_isTalk.f a3).bind fun t125 => (if t125 = true then ((impl_isTrue.f a0 a1 a2 a3).bind fun t126 => (some (t126, true))) else (some (false, false)))) else (some (false, false)))) = some (r1, r2) := h
  clear h
  replace H := Option.bind_eq_some_iff.mp H
  obtain ⟨t124, A50, H⟩ := H
  replace H : (if t124 = true then ((impl_isTalk.f a3).bind fun t125 => (if t125 = true then ((impl_isTrue.f a0 a1 a2 a3).bind fun t126 => (some (t126, true))) else (some (false, false)))) else (some (false, false))) = some (r1, r2) := H
  have A5 := Aside0.mk A50
  clear A50
  by_cases c6 : t124 = true
  · subst c6
    have H1 : ((impl_isTalk.f a3).bind fun t125 => (if t125 = true then ((impl_isTrue.f a0 a1 a2 a3).bind fun t126 => (some (t126, true))) else (some (false, false)))) = some (r1, r2) := by rw [if_pos rfl] at H; exact H
    clear H
    have H := H1
    clear H1
    replace H := Option.bind_eq_some_iff.mp H
    obtain ⟨t125, A70, H⟩ := H
    replace H : (if t125 = true then ((impl_isTrue.f a0 a1 a2 a3).bind fun t126 => (some (t126, true))) else (some (false, false))) = some (r1, r2) := H
    have A7 := Aside0.mk A70
    clear A70
    by_cases c8 : t125 = true
    · subst c8
      have H1 : ((impl_isTrue.f a0 a1 a2 a3).bind fun t126 => (some (t126, true))) = some (r1, r2) := by rw [if_pos rfl] at H; exact H
      clear H
      have H := H1
      clear H1
      replace H := Option.bind_eq_some_iff.mp H
      obtain ⟨t126, A90, H⟩ := H
      replace H : (some (t126, true)) = some (r1, r2) := H
      have A9 := Aside0.mk A90
      clear A90
      simp only [Option.some.injEq, Prod.mk.injEq] at H
      obtain ⟨rfl, rfl⟩ := H
      go_enter Try.func38, Try.ntmps38
      go_wp2_with (first | ((with_reducible refine gate_callee (f := 80) rfl ?_); refine goesL_ (some 13) rfl rfl Try.func80 (by kernel_rfl) rfl #[.int .i64 a0, .int .i64 a1, .int .i64 a2] rfl (by (try simp only [List.map_toArray, List.map_cons, List.map_nil]); first | done | rfl | (simp only [List.length_drop, List.length_take]; rfl)) ?_; (with_reducible refine (impl_isPair.calls a0 a1 a2 true _ A5.out).mono ?_); rintro e w' ⟨rfl, ⟨nd, rfl⟩⟩; refine ⟨_, rfl, ?_⟩) | (go_at_call 75; (with_reducible refine (impl_isTalk.calls a3 true _ A7.out).mono ?_); rintro e w10 ⟨rfl, hb⟩; have n0_ := Aside0.mk (below_step (by repeat (first | (with_reducible first | exact HB.out | apply below_alloc | apply pw_below_drewN | apply below_drew1) | exact HB.out)) hb); clear HB; have HB := n0_; clear n0_; (try clear hb); (try clear hb2); (try clear hk); (try clear hi)) | ((with_reducible refine gate_callee (f := 81) rfl ?_); refine goesL_ (some 24) rfl rfl Try.func81 (by kernel_rfl) rfl #[.int .i64 a0, .int .i64 a1, .int .i64 a2, .string a3] rfl (by (try simp only [List.map_toArray, List.map_cons, List.map_nil]); first | done | rfl | (simp only [List.length_drop, List.length_take]; rfl)) ?_; (with_reducible refine (impl_isTrue.calls a0 a1 a2 a3 t126 _ A9.out).mono ?_); rintro e w11 ⟨rfl, hb⟩; refine ⟨_, rfl, ?_⟩; have n0_ := Aside0.mk (below_step (by repeat (first | (with_reducible first | exact HB.out | apply below_alloc | apply pw_below_drewN | apply below_drew1) | exact HB.out)) hb); clear HB; have HB := n0_; clear n0_; (try clear hb); (try clear hb2); (try clear hk); (try clear hi)))
      go_ret2
      exact ⟨by first | rfl | (simp [errW_none, errW_some] <;> rfl) | (simp [*, errW_none, errW_some] <;> rfl), by repeat (first | (with_reducible first | exact HB.out | apply below_alloc | apply pw_below_drewN | apply below_drew1) | exact HB.out)⟩
    · replace c8 := Bool.eq_false_iff.mpr c8
      subst c8
      have H1 : (some (false, false)) = some (r1, r2) := by rw [if_neg (show ¬ (false = true) by decide)] at H; exact H
      clear H
      have H := H1
      clear H1
      simp only [Option.some.injEq, Prod.mk.injEq] at H
      obtain ⟨rfl, rfl⟩ := H
      go_enter Try.func38, Try.ntmps38
      go_wp2_with (first | ((with_reducible refine gate_callee (f := 80) rfl ?_); refine goesL_ (some 13) rfl rfl Try.func80 (by kernel_rfl) rfl #[.int .i64 a0, .int .i64 a1, .int .i64 a2] rfl (by (try simp only [List.map_toArray, List.map_cons, List.map_nil]); first | done | rfl | (simp only [List.length_drop, List.length_take]; rfl)) ?_; (with_reducible refine (impl_isPair.calls a0 a1 a2 true _ A5.out).mono ?_); rintro e w' ⟨rfl, ⟨nd, rfl⟩⟩; refine ⟨_, rfl, ?_⟩) | (go_at_call 75; (with_reducible refine (impl_isTalk.calls a3 false _ A7.out).mono ?_); rintro e w12 ⟨rfl, hb⟩; have n0_ := Aside0.mk (below_step (by repeat (first | (with_reducible first | exact HB.out | apply below_alloc | apply pw_below_drewN | apply below_drew1) | exact HB.out)) hb); clear HB; have HB := n0_; clear n0_; (try clear hb); (try clear hb2); (try clear hk); (try clear hi)))
      go_ret2
      exact ⟨by first | rfl | (simp [errW_none, errW_some] <;> rfl) | (simp [*, errW_none, errW_some] <;> rfl), by repeat (first | (with_reducible first | exact HB.out | apply below_alloc | apply pw_below_drewN | apply below_drew1) | exact HB.out)⟩
  · replace c6 := Bool.eq_false_iff.mpr c6
    subst c6
    have H1 : (some (false, false)) = some (r1, r2) := by rw [if_neg (show ¬ (false = true) by decide)] at H; exact H
    clear H
    have H := H1
    clear H1
    simp only [Option.some.injEq, Prod.mk.injEq] at H
    obtain ⟨rfl, rfl⟩ := H
    go_enter Try.func38, Try.ntmps38
    go_wp2_with (first | ((with_reducible refine gate_callee (f := 80) rfl ?_); refine goesL_ (some 13) rfl rfl Try.func80 (by kernel_rfl) rfl #[.int .i64 a0, .int .i64 a1, .int .i64 a2] rfl (by (try simp only [List.map_toArray, List.map_cons, List.map_nil]); first | done | rfl | (simp only [List.length_drop, List.length_take]; rfl)) ?_; (with_reducible refine (impl_isPair.calls a0 a1 a2 false _ A5.out).mono ?_); rintro e w' ⟨rfl, ⟨nd, rfl⟩⟩; refine ⟨_, rfl, ?_⟩))
    go_ret2
    exact ⟨by first | rfl | (simp [errW_none, errW_some] <;> rfl) | (simp [*, errW_none, errW_some] <;> rfl), by repeat (first | (with_reducible first | exact HB.out | apply below_alloc | apply pw_below_drewN | apply below_drew1) | exact HB.out)⟩

/-! ### impl_IsTalk: function 40 -/
def impl_IsTalk.f (a0 : ByteArray) : Option (Bool) := (impl_isTalk.f a0).bind fun t127 => (some t127)
set_option maxHeartbeats 8000000 in
set_option maxRecDepth 100000 in
theorem impl_IsTalk.calls (a0 : ByteArray) (r : Bool) (w : World) (h : impl_IsTalk.f a0 = some r) :
    Calls Try.prog 40 #[.string a0] w fun e w' => e = .returned (.bool r) ∧ Below w.heap.size w w' := by
  have HB := Aside0.mk (Below.refl w.heap.size w)
  have H : ((impl_isTalk.f a0).bind fun t127 => (some t127)) = some r := h
  clear h
  replace H := Option.bind_eq_some_iff.mp H
  obtain ⟨t127, A20, H⟩ := H
  replace H : (some t127) = some r := H
  have A2 := Aside0.mk A20
  clear A20
  obtain rfl := Option.some.inj H
  go_enter Try.func40, Try.ntmps40
  go_wp2_with (first | ((with_reducible refine gate_callee (f := 75) rfl ?_); refine goesL_ (some 4) rfl rfl Try.func75 (by kernel_rfl) rfl #[.string a0] rfl (by (try simp only [List.map_toArray, List.map_cons, List.map_nil]); first | done | rfl | (simp only [List.length_drop, List.length_take]; rfl)) ?_; (with_reducible refine (impl_isTalk.calls a0 t127 _ A2.out).mono ?_); rintro e w3 ⟨rfl, hb⟩; refine ⟨_, rfl, ?_⟩; have n0_ := Aside0.mk (below_step (by repeat (first | (with_reducible first | exact HB.out | apply below_alloc | apply pw_below_drewN | apply below_drew1) | exact HB.out)) hb); clear HB; have HB := n0_; clear n0_; (try clear hb); (try clear hb2); (try clear hk); (try clear hi)))
  go_ret
  exact ⟨by first | rfl | (simp [errW_none, errW_some] <;> rfl) | (simp [*, errW_none, errW_some] <;> rfl), by repeat (first | (with_reducible first | exact HB.out | apply below_alloc | apply pw_below_drewN | apply below_drew1) | exact HB.out)⟩

end Go.Proofs.Ytlkbphhmahipdaa.P
