/- Calls of the functions of the given program return what the plain Lean functions of the same names return; and a row of a law out of its pure statement. Written by a program of this session out of the translation; Lean checks it. No condition. -/
import Derived.Test.YtllihaahppelhaaPx0
import Derived.Test.YtllihaahppelhaaPxHimplqKinqparents
import Derived.Test.YtllihaahppelhaaPx11
import Derived.Test.YtllihaahppelhaaPxHimplqsteps
import Derived.Test.YtllihaahppelhaaPx14
import Derived.Test.YtllihaahppelhaaHlp
import Derived.Shelf.Abstract
import Derived.Deep.RegionHeld3
namespace Go.Proofs.Ytllihaahppelhaa.P
open Go.RowKit Go.Proofs.YtllihaahppelhaaW.PrintWords Go.Proofs.YtllihaahppelhaaW.PrintLast Go.Proofs.YtllihaahppelhaaW.PrintMore
attribute [local go_sem] max2_int min2_int max_two min_two max_three min_three max_four min_four   -- for this text's walks alone
set_option linter.unusedVariables false
set_option linter.unusedSimpArgs false

/-! ### impl_StepsApart: function 20, by hand -/
-- IMPORT Derived.Test.YtllihaahppelhaaHlp
-- IMPORT Derived.Shelf.Abstract
-- IMPORT Derived.Deep.RegionHeld3
def impl_StepsApart.ps (l0 : List S49) (i : Int) : List Int := [(rd_T49 l0 i).f1, (rd_T49 l0 i).f2].filter fun x => !decide (x < 0)
def impl_StepsApart.nx (k : Nat) (l0 : List S49) (x : Int) : Option (List Int) :=
  if 0 ≤ x ∧ x < (l0.length : Int) then (impl_children.f k l0 x).bind fun c => if c.length ≤ 1000000 then some (impl_StepsApart.ps l0 x ++ c) else none else none
set_option maxHeartbeats 4000000 in
set_option maxRecDepth 100000 in
theorem impl_StepsApart.clo (k : Nat) (A0 : Option Addr) (c0 : Nat) (l0 : List S49) (x : Int) (r : List Int) (B1 : Nat) (W : World) (h1 : W.cell? ⟨B1, 0, none⟩ = some (.slice A0 l0.length c0)) (hr0 : Kd.C k49 W A0 l0.length l0) (hc0 : l0.length ≤ c0) (h : impl_StepsApart.nx k l0 x = some r) :
    Calls Try.prog 46 #[.int .i64 x, .pointer (some ⟨B1, 0, none⟩)] W fun e w' => ∃ v : Value, e = .returned v ∧ Kd.R (Kd.int .i64) 3 w' W.heap.size (fun _ => True) v r ∧ Below W.heap.size W w' := by
  unfold impl_StepsApart.nx at h
  have hi : 0 ≤ x ∧ x < (l0.length : Int) := by
    split at h
    · assumption
    · cases h
  rw [if_pos hi] at h
  obtain ⟨cs, hk, h⟩ := Option.bind_eq_some_iff.1 h
  have hcl : cs.length ≤ 1000000 := by
    split at h
    · assumption
    · cases h
  rw [if_pos hcl] at h
  obtain rfl := Option.some.inj h
  clear h
  obtain ⟨m, rfl⟩ := Int.eq_ofNat_of_zero_le hi.1
  have hm : m < l0.length := by omega
  obtain ⟨ad, rfl, g0, g1, g2⟩ := at_T49 hr0 (m : Int) hi.1 hi.2
  rw [Int.toNat_natCast] at g0 g1 g2
  have hlen := Hlp.C_len hr0
  have hpl : (impl_StepsApart.ps l0 (m : Int)).length ≤ 2 := Nat.le_trans (List.length_filter_le _ _) (by simp)
  have hpar := fun W => impl_Kin_parents.calls (rd_T49 l0 (m : Int)).f0 (rd_T49 l0 (m : Int)).f1 (rd_T49 l0 (m : Int)).f2 (impl_StepsApart.ps l0 (m : Int)) W rfl
  have hchi : ∀ W', Below W.heap.size W W' → Calls Try.prog 48 #[.slice (some ad) l0.length c0, .int .i64 (m : Int)] W' fun e w' => ∃ A cc, e = .returned (.slice A cs.length cc) ∧ Aside0 (Kd.R (Kd.int .i64) 3 w' W'.heap.size (fun _ => True) (.slice A cs.length cc) cs ∧ Below W'.heap.size W' w') := fun W' hb => (impl_children.calls k (some ad) c0 l0 (m : Int) cs W' (Kd.C_below hr0 hb) hc0 hk).mono fun e w' he => by
    obtain ⟨v, rfl, hR, hb⟩ := he
    obtain ⟨A, cc, rfl⟩ := Kd.R_slice hR
    exact ⟨A, cc, rfl, ⟨hR, hb⟩⟩
  generalize impl_StepsApart.ps l0 (m : Int) = ps at hpar hpl ⊢
  have HP : Aside0 _ := ⟨hpar⟩
  have HD : Aside0 _ := ⟨hchi⟩
  generalize (rd_T49 l0 (m : Int)).f0 = x0 at g0 HP
  generalize (rd_T49 l0 (m : Int)).f1 = x1 at g1 HP
  generalize (rd_T49 l0 (m : Int)).f2 = x2 at g2 HP
  have HB := Aside0.mk (below_drew (Below.refl W.heap.size W))
  have hiz : (m : Int) < (l0.length : Int) := hi.2
  clear hpar hchi hr0 hi hk
  go_enter Try.func46, Try.ntmps46
  go_wp2_with fail
  go_region_held3 (fun w' => w'.cell? ⟨B1, 0, none⟩ = some (.slice (some ad) l0.length c0) ∧ w'.cell? (ad.add (m * 3)) = some (.int .i64 x0) ∧ w'.cell? ⟨(ad.add (m * 3)).block, (ad.add (m * 3)).off + 1, none⟩ = some (.int .i64 x1) ∧ w'.cell? ⟨(ad.add (m * 3)).block, (ad.add (m * 3)).off + 2, none⟩ = some (.int .i64 x2))
    (first | go_keep | exact ⟨pw_cell_below hb3 h1, pw_cell_below hb3 g0, pw_cell_below hb3 g1, pw_cell_below hb3 g2⟩ | (have hb9 := below_step (below_step HB.out hb1) hb2.out.2; exact ⟨pw_cell_below hb9 h1, pw_cell_below hb9 g0, pw_cell_below hb9 g1, pw_cell_below hb9 g2⟩) | (have hb9 := below_step HB.out hb1; exact ⟨pw_cell_below hb9 h1, pw_cell_below hb9 g0, pw_cell_below hb9 g1, pw_cell_below hb9 g2⟩))
    (first | (go_at_call 47; refine (HP.out _).mono ?_; rintro e w1 ⟨v1, rfl, hR1, hb1⟩) | (go_at_call 48; refine (HD.out _ (below_step HB.out hb1)).mono ?_; rintro e w2 ⟨A2, cc2, rfl, hb2⟩) | (refine Kd.R_append_rows_step (Kd.int .i64) (w0 := W) W.heap.size (by rfl) (.tmp 8) (.tmp 11) 37 3 (.int .i64 0) 8 (by rfl) Try.underlying37 info3 (by rfl) (by decide) (by omega) v1 ps cs A2 cs.length cc2 (fun _ => True) (fun _ => False) (by rfl) (by rfl) (Kd.R_below (Kd.R_lower hR1 (Nat.le_refl _)) hb2.out.2) (Kd.R_reads' hb2.out.1).2.2 (fun _ _ h => h) (fun _ hk => hk.elim) (fun _ _ => trivial) (below_step (below_step HB.out hb1) hb2.out.2) (below_step (below_step HB.out hb1) hb2.out.2).size (by omega) ?_; intro v3 w3 ho hb3 hg3 hat3))
  go_wp2
  go_ret
  exact ⟨_, rfl, ho, hb3⟩
def impl_StepsApart.f (k : Nat) (l0 : List S49) (a1 a2 : Int) : Option (Int × Bool) :=
  (impl_hasKin.f k l0 [a1, a2]).bind fun t => if t = true then (impl_steps.g (impl_StepsApart.nx k l0) k l0.length a1).bind fun far => if 0 ≤ a2 ∧ a2 < (far.length : Int) then (if rd far a2 < 0 then some (0, false) else some (rd far a2, true)) else none else some (0, false)
theorem impl_StepsApart.nx_mono (k : Nat) (l0 : List S49) (x : Int) (r : List Int) (h : impl_StepsApart.nx k l0 x = some r) : impl_StepsApart.nx (k + 1) l0 x = some r := by
  unfold impl_StepsApart.nx at h ⊢
  split at h
  · rename_i hc
    rw [if_pos hc]
    obtain ⟨c, h1, h⟩ := Option.bind_eq_some_iff.1 h
    rw [impl_children.mono l0 x k _ h1]
    exact h
  · cases h
theorem impl_StepsApart.mono (l0 : List S49) (a1 a2 : Int) (k : Nat) : LeO (impl_StepsApart.f k l0 a1 a2) (impl_StepsApart.f (k + 1) l0 a1 a2) := by
  unfold impl_StepsApart.f
  refine LeO.bind (impl_hasKin.mono _ _ _) fun t => LeO.ite (LeO.bind (fun r h => impl_steps.g_mono _ _ (impl_StepsApart.nx_mono k l0) _ _ _ _ h) fun _ => LeO.refl _) (LeO.refl _)
set_option maxHeartbeats 8000000 in
set_option maxRecDepth 100000 in
theorem impl_StepsApart.calls (k : Nat) (A0 : Option Addr) (c0 : Nat) (l0 : List S49) (a1 a2 : Int) (r1 : Int) (r2 : Bool) (w : World) (hr0 : Kd.C k49 w A0 l0.length l0) (hc0 : l0.length ≤ c0) (h : impl_StepsApart.f k l0 a1 a2 = some (r1, r2)) :
    Calls Try.prog 20 #[.slice A0 l0.length c0, .int .i64 a1, .int .i64 a2] w fun e w' => e = .returned (.tuple #[.int .i64 r1, .bool r2]) ∧ Below w.heap.size w w' := by
  unfold impl_StepsApart.f at h
  obtain ⟨t, ht, h⟩ := Option.bind_eq_some_iff.1 h
  obtain ⟨W1, hW1⟩ : ∃ W1, W1 = w.alloc (.cells #[.slice A0 l0.length c0] 27) := ⟨_, rfl⟩
  have hs1 : W1.heap.size = w.heap.size + 1 := by rw [hW1]; simp
  have hb1 : Below w.heap.size w W1 := by rw [hW1]; exact (Below.refl _ w).alloc (Nat.le_refl _) _
  have hbox : W1.cell? ⟨w.heap.size, 0, none⟩ = some (.slice A0 l0.length c0) := by rw [hW1]; simp
  have hb2 : Below W1.heap.size W1 (W1.alloc (.cells #[.int .i64 a1, .int .i64 a2] 3)) := (Below.refl _ W1).alloc (Nat.le_refl _) _
  have hlit := own_lit W1 W1.heap.size 3 .i64 [a1, a2] (Nat.le_refl _) (by simp)
  have hC2 : Kd.C (Kd.int .i64) (W1.alloc (.cells #[.int .i64 a1, .int .i64 a2] 3)) (some ⟨W1.heap.size, 0, none⟩) ([a1, a2] : List Int).length [a1, a2] := Kd.C_of_reads (d := (0 : Int)) (h1 := fun _ => rfl) (own_reads' hlit)
  have hkin := impl_hasKin.calls k A0 c0 l0 (some ⟨W1.heap.size, 0, none⟩) 2 [a1, a2] t (W1.alloc (.cells #[.int .i64 a1, .int .i64 a2] 3)) (Kd.C_below hr0 (below_step hb1 hb2)) hc0 hC2 (by simp) ht
  have HK : Aside0 (Calls Try.prog 44 #[.slice A0 l0.length c0, .slice (some ⟨w.heap.size + 1, 0, none⟩) 2 2] ((w.alloc (.cells #[.slice A0 l0.length c0] 27)).alloc (.cells #[.int .i64 a1, .int .i64 a2] 3)) fun e w' => e = .returned (.bool t) ∧ w'.cell? ⟨w.heap.size, 0, none⟩ = some (.slice A0 l0.length c0) ∧ Aside0 (Below W1.heap.size W1 w')) := ⟨by
    rw [← hW1, ← hs1]
    exact hkin.mono fun e w' he => ⟨he.1, pw_cell_below (below_step hb2 he.2) hbox, ⟨below_step hb2 he.2⟩⟩⟩
  clear hkin hC2 hlit hb2 ht
  cases t with
  | false =>
    rw [if_neg (by simp)] at h
    obtain ⟨rfl, rfl⟩ := Prod.mk.inj (Option.some.inj h)
    clear h hr0 hc0
    have HB1 := Aside0.mk hb1
    clear hb1 hbox hs1 hW1
    go_enter Try.func20, Try.ntmps20
    go_wp2_with (go_at_call 44; refine HK.out.mono ?_; rintro e w' ⟨rfl, hc, hb⟩)
    go_ret2
    exact ⟨rfl, below_step HB1.out hb.out⟩
  | true =>
    rw [if_pos rfl] at h
    obtain ⟨far, hfar, h⟩ := Option.bind_eq_some_iff.1 h
    have hi : 0 ≤ a2 ∧ a2 < (far.length : Int) := by
      split at h
      · assumption
      · cases h
    rw [if_pos hi] at h
    obtain ⟨b, rfl⟩ := Int.eq_ofNat_of_zero_le hi.1
    have hbl : b < far.length := by omega
    have hblz : (b : Int) < (far.length : Int) := hi.2
    have eg : ∀ args w, (callFunc 46 args).run Try.prog w = .ok (.enter 46 args) w := enters_of Try.func46 (by kernel_rfl) rfl
    have HST : Aside0 (∀ W, Below W1.heap.size W1 W → Calls Try.prog 45 #[.slice A0 l0.length c0, .int .i64 a1, .func (.func 46) #[] #[.pointer (some ⟨w.heap.size, 0, none⟩)]] W fun e w' => ∃ ad cc, e = .returned (.slice (some ad) far.length cc) ∧ w'.cell? (ad.add b) = some (.int .i64 (rd far (b : Int))) ∧ Aside0 (Below w.heap.size w w')) := ⟨fun W hW =>
      (impl_steps.any (impl_StepsApart.nx k l0) k 46 #[.pointer (some ⟨w.heap.size, 0, none⟩)] eg A0 l0.length c0 a1 far W (fun x ks hx W' hW' => impl_StepsApart.clo k A0 c0 l0 x ks w.heap.size W' (pw_cell_below (below_step hW hW') hbox) (Kd.C_below hr0 (below_step hb1 (below_step hW hW'))) hc0 hx) hfar).mono fun e w' he => by
        obtain ⟨v, rfl, hR, hb⟩ := he
        obtain ⟨A, cc, rfl, _, hC⟩ := Kd.R_reads hR
        obtain ⟨ad, rfl, hcell⟩ := Hlp.int_at hC b hbl
        refine ⟨ad, cc, rfl, ?_, ⟨below_step hb1 (below_step hW hb)⟩⟩
        rw [hcell]
        simp [rd, List.getD_eq_getElem?_getD, List.getElem?_eq_getElem hbl]⟩
    generalize rd far (b : Int) = d at h HST
    clear hfar hr0 hc0 hb1 hbox hs1 hi eg hW1
    by_cases hd : d < 0
    · rw [if_pos hd] at h
      obtain ⟨rfl, rfl⟩ := Prod.mk.inj (Option.some.inj h)
      clear h
      go_enter Try.func20, Try.ntmps20
      go_wp2_with (first | (go_at_call 44; refine HK.out.mono ?_; rintro e w' ⟨rfl, hc, hb⟩) | (go_at_call 45; refine (HST.out _ hb.out).mono ?_; rintro e w2 ⟨ad, cc, rfl, hcd, hb3⟩))
      go_ret2
      exact ⟨rfl, hb3.out⟩
    · rw [if_neg hd] at h
      obtain ⟨rfl, rfl⟩ := Prod.mk.inj (Option.some.inj h)
      clear h
      go_enter Try.func20, Try.ntmps20
      go_wp2_with (first | (go_at_call 44; refine HK.out.mono ?_; rintro e w' ⟨rfl, hc, hb⟩) | (go_at_call 45; refine (HST.out _ hb.out).mono ?_; rintro e w2 ⟨ad, cc, rfl, hcd, hb3⟩))
      go_ret2
      exact ⟨rfl, hb3.out⟩

end Go.Proofs.Ytllihaahppelhaa.P
