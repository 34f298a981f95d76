/- Calls of the functions of the given program return what the plain Lean functions of the same names return; and a row of a law out of its pure statement. Written by a program of this session out of the translation; Lean checks it. No condition. -/
import Derived.Test.YtnbolemfldmohaaPx0
import Derived.Test.YtnbolemfldmohaaPxHimplqRatioq65
import Derived.Test.YtnbolemfldmohaaPxHimplqareRatios
import Derived.Test.YtnbolemfldmohaaPx7
import Derived.Test.YtnbolemfldmohaaHlp
import Derived.Test.YtnbolemfldmohaaEv
namespace Go.Proofs.Ytnbolemfldmohaa.P
open Go.RowKit Go.Proofs.YtnbolemfldmohaaW.PrintWords Go.Proofs.YtnbolemfldmohaaW.PrintLast Go.Proofs.YtnbolemfldmohaaW.PrintMore
attribute [local go_sem] max2_int min2_int max_two min_two max_three min_three max_four min_four   -- for this text's walks alone
set_option linter.unusedVariables false
set_option linter.unusedSimpArgs false

/-! ### impl_WholeLives: function 23, by hand -/
-- IMPORT Derived.Test.YtnbolemfldmohaaHlp
-- IMPORT Derived.Test.YtnbolemfldmohaaEv
/-- Is a part of so many years not whole? -/
def impl_WholeLives.odd (n : Int) (x : S43) : Bool := !(Int.tmod (n * x.f0) x.f1 == 0)
def impl_WholeLives.to (l0 : List S43) (n : Nat) : List Int := ((List.range n).filter fun i : Nat => !(l0.any (impl_WholeLives.odd ((i : Int) + 1)))).map fun i : Nat => (i : Int) + 1
def impl_WholeLives.f (k : Nat) (l0 : List S43) : Option (List Int × Bool) := (impl_areParts.f k l0).bind fun t => if t = true then some (impl_WholeLives.to l0 200, true) else some (([] : List Int), false)
theorem impl_WholeLives.mono (l0 : List S43) (k : Nat) : LeO (impl_WholeLives.f k l0) (impl_WholeLives.f (k + 1) l0) := by
  unfold impl_WholeLives.f
  exact LeO.bind (impl_areParts.mono l0 k) fun _ => LeO.refl _
theorem impl_WholeLives.to_succ (l0 : List S43) (n : Nat) : impl_WholeLives.to l0 (n + 1) = if l0.any (impl_WholeLives.odd ((n : Int) + 1)) = true then impl_WholeLives.to l0 n else impl_WholeLives.to l0 n ++ [(n : Int) + 1] := by
  unfold impl_WholeLives.to
  rw [List.range_succ, List.filter_append, List.map_append]
  cases h : l0.any (impl_WholeLives.odd ((n : Int) + 1)) <;> simp [h]
theorem impl_WholeLives.to_len (l0 : List S43) (n : Nat) : (impl_WholeLives.to l0 n).length ≤ n := by
  unfold impl_WholeLives.to
  rw [List.length_map]
  exact Nat.le_trans (List.length_filter_le _ _) (by simp)
set_option maxHeartbeats 2000000 in
theorem impl_WholeLives.clo (n : Int) (x : S43) (B : Nat) (w : World) (hB : w.cell? ⟨B, 0, none⟩ = some (.int .i64 n)) (hn : 0 ≤ n ∧ n ≤ 1000) (h0 : 1 ≤ x.f0 ∧ x.f0 ≤ 100) (h1 : 1 ≤ x.f1 ∧ x.f1 ≤ 100) :
    Calls Try.prog 66 #[.agg #[.int .i64 x.f0, .int .i64 x.f1], .pointer (some ⟨B, 0, none⟩)] w fun e w' => e = .returned (.bool (impl_WholeLives.odd n x)) ∧ Below w.heap.size w w' := by
  have hu := Try.underlying43
  have HB := Aside0.mk (Below.refl w.heap.size w)
  have hb := E.mulb n x.f0 1000 100 (by omega) (by omega)
  have hw : wrap64 (n * x.f0) = n * x.f0 := E.w64 _ (by omega)
  have hz : x.f1 ≠ 0 := by omega
  have HW := Aside0.mk hw
  clear hb hw hn h0 h1
  unfold impl_WholeLives.odd
  go_enter Try.func66, Try.ntmps66
  go_wp2_with (first | ((with_reducible refine gate_dst (N := 2) rfl ?_); refine box_event ?hg (N := 2) ?hd (cs := #[.int .i64 x.f0, .int .i64 x.f1]) (t := 43) ?hr ?_; (case hd => rfl); (case hg => rfl); (case hr => first | (go_simp; done) | (go_simp; rfl)); intro gb hg w5 hbox hb; have n0_ := Aside0.mk (below_step HB.out hb); have n1_ := Aside0.mk (hbox); have n2_ := (pw_cell_below hb hB); clear HB hB; have HB := n0_; have BK := n1_; have hB := n2_; clear n0_ n1_ n2_; clear hb hbox hg; have hcz0 : w5.cell? ⟨gb, 0, none⟩ = some (.int .i64 x.f0) := (blk_cell BK.out 0).trans rfl; have hcz1 : w5.cell? ⟨gb, 1, none⟩ = some (.int .i64 x.f1) := (blk_cell BK.out 1).trans rfl; have hfz0 := blk_frozen BK.out 0; have hfz1 := blk_frozen BK.out 1))
  go_ret
  refine ⟨?_, HB.out⟩
  rw [HW.out]
  by_cases h : Int.tmod (n * x.f0) x.f1 = 0
  · simp [h]
  · simp [h, bne]
theorem impl_WholeLives.all (k : Nat) (l0 : List S43) (h : impl_areParts.f k l0 = some true) : ∀ x ∈ l0, (1 ≤ x.f0 ∧ x.f0 ≤ 100) ∧ 1 ≤ x.f1 ∧ x.f1 ≤ 100 := by
  unfold impl_areParts.f impl_areRatios.f at h
  simp only [Option.bind_some] at h
  split at h
  · rename_i h1
    have h2 := (Bool.and_eq_true_iff.1 h1).2
    intro x hx
    have h3 := List.all_eq_true.1 h2 x hx
    unfold impl_areRatios.one at h3
    simpa using h3
  · cases h
set_option maxHeartbeats 4000000 in
set_option maxRecDepth 100000 in
theorem impl_WholeLives.calls (k : Nat) (A0 : Option Addr) (c0 : Nat) (l0 : List S43) (r1 : List Int) (r2 : Bool) (w : World) (hr0 : Kd.C k43 w A0 l0.length l0) (hc0 : l0.length ≤ c0) (h : impl_WholeLives.f k l0 = some (r1, r2)) :
    Calls Try.prog 23 #[.slice A0 l0.length c0] w fun e w' => ∃ v0_ : Value, e = .returned (.tuple #[v0_, .bool r2]) ∧ Kd.R (Kd.int .i64) 3 w' w.heap.size (fun _ => True) v0_ r1 ∧ Below w.heap.size w w' := by
  unfold impl_WholeLives.f at h
  obtain ⟨t, h1, h2⟩ := Option.bind_eq_some_iff.1 h
  clear h
  have HC0 := Aside0.mk hc0
  have A1 := Aside0.mk h1
  have HR0 := Aside0.mk hr0
  have hu := Try.underlying43
  clear h1 hc0 hr0
  cases t with
  | false =>
    simp only [Bool.false_eq_true, if_false, Option.some.injEq, Prod.mk.injEq] at h2
    obtain ⟨rfl, rfl⟩ := h2
    go_enter Try.func23, Try.ntmps23
    go_wp2_with (go_at_call 56; refine (impl_areParts.calls k A0 c0 l0 false _ (Kd.C_below HR0.out (by first | exact Below.refl _ _ | exact below_drew (Below.refl _ _))) HC0.out A1.out).mono ?_; rintro e w' ⟨rfl, hb⟩; have HB := Aside0.mk hb; clear hb)
    go_ret2
    exact ⟨_, rfl, Kd.R_nil _ _ _ _ _, HB.out⟩
  | true =>
    simp only [if_true, Option.some.injEq, Prod.mk.injEq] at h2
    obtain ⟨rfl, rfl⟩ := h2
    have HA := Aside0.mk (impl_WholeLives.all k l0 A1.out)
    have eg : ∀ args w, (callFunc 66 args).run Try.prog w = .ok (.enter 66 args) w := enters_of Try.func66 (by kernel_rfl) rfl
    have EG := Aside0.mk eg
    clear eg
    go_enter Try.func23, Try.ntmps23
    go_wp2_with (first | (go_at_call 56; refine (impl_areParts.calls k A0 c0 l0 true _ (Kd.C_below HR0.out (by first | exact Below.refl _ _ | exact below_drew (Below.refl _ _))) HC0.out A1.out).mono ?_; rintro e w' ⟨rfl, hb⟩; have HB := Aside0.mk hb; clear hb) | ((with_reducible refine gate_dst (N := 9) rfl ?_); refine Kd.R_lit (Kd.int .i64) _ 3 ?hg (N := 9) ?hd (xs := ([] : List Int)) (inner := []) (ok := fun _ => True) (okp := fun _ => True) ?hr ?hp (fun _ hk => hk) trivial (Below.refl _ _) (Nat.le_refl _) (by simp) ?_; (case hd => rfl); (case hg => rfl); (case hr => first | (go_simp; done) | (go_simp; rfl)); (case hp => exact (Reps.none _ _)); intro v156 w10 ho11 hb hg_ hnew_; clear hg_ hnew_; have n0_ := Aside0.mk (Kd.R_lower ho11 (below_size (by repeat (first | (with_reducible first | exact HB.out | apply below_alloc | apply pw_below_drewN | apply below_drew1) | exact HB.out)))); have n1_ := Aside0.mk (below_step (by repeat (first | (with_reducible first | exact HB.out | apply below_alloc | apply pw_below_drewN | apply below_drew1) | exact HB.out)) hb); clear HB; have HO := n0_; have HB := n1_; clear n0_ n1_; clear hb ho11))
    clear hu
    go_loopg [4, 5] 201 (fun gg v4 v5 wr => ∃ (kk : Nat) (B : Nat), kk ≤ 200 ∧ 200 - kk ≤ gg ∧ v5 = .pointer (some ⟨B, 0, none⟩) ∧ Aside0 (wr.heap[B]? = some (.cells #[.int .i64 ((kk : Int) + 1)] 3 (0, 0))) ∧ Aside0 (w.heap.size ≤ B) ∧ Aside0 (Kd.R (Kd.int .i64) 3 wr w.heap.size (fun k_ => True ∧ k_ ≠ B) v4 (impl_WholeLives.to l0 kk)) ∧ Aside0 (Below w.heap.size w wr))
    case atStart =>
      exact ⟨0, w10.heap.size, by omega, by omega, rfl, ⟨blk_new w10 _⟩, ⟨below_size HB.out⟩, ⟨Kd.R_alloc (Kd.R_elderB HO.out w10.heap.size (Nat.le_refl _)) _⟩, ⟨below_alloc HB.out _⟩⟩
    case round =>
      clear HO HB
      obtain ⟨kk, B, hkk, hg, rfl, BK, GE, HO, HB1⟩ := hrel
      have hcell : wr.cell? ⟨B, 0, none⟩ = some (.int .i64 ((kk : Int) + 1)) := (blk_cell BK.out 0).trans rfl
      by_cases hlt : kk < 200
      · have hle : ((kk : Int) + 1 ≤ 200) = True := eq_true (by omega)
        have hcon : ∀ W, Below wr.heap.size wr W → Calls Try.prog 65 #[.slice A0 l0.length c0, .func (.func 66) #[] #[.pointer (some ⟨B, 0, none⟩)]] W fun e w' => e = .returned (.bool (l0.any (impl_WholeLives.odd ((kk : Int) + 1)))) ∧ Below W.heap.size W w' := fun W hW =>
          impl_Ratio_65.any (impl_WholeLives.odd ((kk : Int) + 1)) 66 #[.pointer (some ⟨B, 0, none⟩)] EG.out A0 c0 l0 W (Kd.C_below HR0.out (below_step HB1.out hW)) (fun x hx W' hW' => impl_WholeLives.clo ((kk : Int) + 1) x B W' (pw_cell_below hW' (pw_cell_below hW hcell)) (by omega) (HA.out x hx).1 (HA.out x hx).2)
        have HS := Aside0.mk (impl_WholeLives.to_succ l0 kk)
        cases hq : l0.any (impl_WholeLives.odd ((kk : Int) + 1)) with
        | true =>
          rw [hq] at hcon
          have HQ := Aside0.mk hq
          have HC := Aside0.mk hcon
          clear hcon hq
          go_wp2_with (go_at_call 65; refine (HC.out _ (by repeat (first | exact Below.refl _ _ | apply below_alloc | apply pw_below_drewN | apply below_drew1))).mono ?_; rintro e w2 ⟨rfl, hb⟩; have HB2 := Aside0.mk (below_step HB1.out hb); have BK2 := Aside0.mk ((hb.block _ (blk_lt BK.out)).trans BK.out); have HO2 := Aside0.mk (Kd.R_below HO.out hb); have hcell2 : w2.cell? ⟨B, 0, none⟩ = some (.int .i64 ((kk : Int) + 1)) := (blk_cell BK2.out 0).trans rfl; clear hb hcell)
          go_roundg (200 - (kk + 1))
          case measure => omega
          case rel => exact ⟨kk + 1, w2.heap.size, by omega, by omega, rfl, ⟨blk_new w2 _⟩, ⟨below_size HB2.out⟩, ⟨by rw [HS.out, if_pos HQ.out]; exact Kd.R_alloc (Kd.R_mono (Kd.R_elderB HO2.out w2.heap.size (Nat.le_refl _)) (fun _ hk => ⟨trivial, hk.2⟩)) _⟩, ⟨below_alloc HB2.out _⟩⟩
        | false =>
          rw [hq] at hcon
          have HQ := Aside0.mk hq
          have HC := Aside0.mk hcon
          clear hcon hq
          go_wp2_with (first | (go_at_call 65; refine (HC.out _ (by repeat (first | exact Below.refl _ _ | apply below_alloc | apply pw_below_drewN | apply below_drew1))).mono ?_; rintro e w2 ⟨rfl, hb⟩; have HB2 := Aside0.mk (below_step HB1.out hb); have BK2 := Aside0.mk ((hb.block _ (blk_lt BK.out)).trans BK.out); have HO2 := Aside0.mk (Kd.R_below HO.out hb); have hcell2 : w2.cell? ⟨B, 0, none⟩ = some (.int .i64 ((kk : Int) + 1)) := (blk_cell BK2.out 0).trans rfl; clear hb hcell) | ((with_reducible refine gate_builtin (b := .append) (xs := #[.tmp 18, .tmp 20]) rfl ?_); at_builtin; refine Kd.R_append (Kd.int .i64) (w0 := w) w.heap.size rfl (.tmp 18) (.tmp 20) 32 3 (.int .i64 0) 8 rfl Try.underlying32 info3 rfl (by decide) (by omega) u4 (impl_WholeLives.to l0 kk) ((kk : Int) + 1) [.int .i64 ((kk : Int) + 1)] (fun k_ => True ∧ k_ ≠ B) (fun _ => False) rfl (by first | (go_simp; done) | (go_simp; rfl)) ?aP (fun _ hk => hk.elim) ?aF ?aO ?aB ?aS ?aL ?_; (case aP => exact rfl); (case aB => exact HB2.out); (case aF => exact (fun k_ hk_ => ⟨trivial, by have := blk_lt BK2.out; omega⟩)); (case aO => exact HO2.out); (case aS => exact below_size HB2.out); (case aL => have := impl_WholeLives.to_len l0 kk; omega); intro v161 w3 ho hb hg hat; have HB3 := Aside0.mk hb; have HO3 := Aside0.mk ho; have BK3 := Aside0.mk (blk_grown BK2.out hg (fun e_ => (HO2.out.1 _ (by first | exact e_ | exact e_.symm)).2 rfl)); have hcell3 : w3.cell? ⟨B, 0, none⟩ = some (.int .i64 ((kk : Int) + 1)) := (blk_cell BK3.out 0).trans rfl; clear ho hb hg hat))
          go_roundg (200 - (kk + 1))
          case measure => omega
          case rel => exact ⟨kk + 1, w3.heap.size, by omega, by omega, rfl, ⟨blk_new w3 _⟩, ⟨below_size HB3.out⟩, ⟨by rw [HS.out, if_neg (by rw [HQ.out]; decide)]; exact Kd.R_alloc (Kd.R_mono (Kd.R_elderB HO3.out w3.heap.size (Nat.le_refl _)) (fun _ hk => ⟨trivial, hk.2⟩)) _⟩, ⟨below_alloc HB3.out _⟩⟩
      · have hle : ((kk : Int) + 1 ≤ 200) = False := eq_false (by omega)
        obtain rfl : kk = 200 := by omega
        go_wp2
        go_ret2
        exact ⟨_, rfl, Kd.R_mono HO.out (fun _ _ => trivial), HB1.out⟩

end Go.Proofs.Ytnbolemfldmohaa.P
