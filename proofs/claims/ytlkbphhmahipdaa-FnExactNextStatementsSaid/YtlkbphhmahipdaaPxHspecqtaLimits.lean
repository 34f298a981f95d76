/- Calls of the functions of the given program return what the plain Lean functions of the same names return; and a row of a law out of its pure statement. Written by a program of this session out of the translation; Lean checks it. No condition. -/
import Derived.Test.YtlkbphhmahipdaaPx0
import Derived.Test.YtlkbphhmahipdaaPxHspecqtaLeft
import Derived.Test.YtlkbphhmahipdaaPx5
import Derived.Test.YtlkbphhmahipdaaPxHimplqisTalk
import Derived.Test.YtlkbphhmahipdaaPxHimplqisTrue
import Derived.Test.YtlkbphhmahipdaaTk
namespace Go.Proofs.Ytlkbphhmahipdaa.P
open Go.RowKit Go.Proofs.YtlkbphhmahipdaaW.PrintWords Go.Proofs.YtlkbphhmahipdaaW.PrintLast Go.Proofs.YtlkbphhmahipdaaW.PrintMore
attribute [local go_sem] max2_int min2_int max_two min_two max_three min_three max_four min_four   -- for this text's walks alone
set_option linter.unusedVariables false
set_option linter.unusedSimpArgs false

/-! ### spec_taLimits: function 71, by hand -/
-- IMPORT Derived.Test.YtlkbphhmahipdaaTk
theorem spec_taHas.l0_told (xs : List (List Int)) (hn : xs.length ≤ 100000) (h2 : ∀ x ∈ xs, x.length = 2) (a b : Int) (d : Nat) : ∀ i, i ≤ xs.length → xs.length - i ≤ d → spec_taHas.l0 (d + 1) a b xs (xs.length : Int) (i : Int) = some (impl_isTrue.has_ (xs.drop i) a b) := by
  induction d with
  | zero =>
    intro i h1 hd
    obtain rfl : i = xs.length := by omega
    rw [spec_taHas.l0, if_neg (by omega), List.drop_length]
    rfl
  | succ d ih =>
    intro i h1 hd
    by_cases hi : i < xs.length
    · have hg : xs.getD (i : Int).toNat [] = xs[i] := by simp [List.getD_eq_getElem?_getD, hi]
      have hl := h2 xs[i] (List.getElem_mem hi)
      have e1 : wrap64 ((i : Int) + 1) = ((i + 1 : Nat) : Int) := by unfold wrap64; omega
      have ihn := ih (i + 1) (by omega) (by omega)
      have hd' : xs.drop i = xs[i] :: xs.drop (i + 1) := List.drop_eq_getElem_cons hi
      rw [hd']
      show spec_taHas.l0 (d + 1 + 1) a b xs (xs.length : Int) (i : Int) = some (((decide (rd xs[i] 0 = a) && decide (rd xs[i] 1 = b)) || impl_isTrue.has_ (xs.drop (i + 1)) a b))
      rw [spec_taHas.l0, if_pos (by omega), if_pos (by omega), if_pos (by omega)]
      show (if 0 < (((xs.getD (i : Int).toNat []).length : Nat) : Int) then (if rd (xs.getD (i : Int).toNat []) 0 = a then (if 1 < (((xs.getD (i : Int).toNat []).length : Nat) : Int) then (if rd (xs.getD (i : Int).toNat []) 1 = b then some true else spec_taHas.l0 (d + 1) a b xs (xs.length : Int) (wrap64 ((i : Int) + 1))) else none) else spec_taHas.l0 (d + 1) a b xs (xs.length : Int) (wrap64 ((i : Int) + 1))) else none) = _
      rw [hg, hl, e1, if_pos (by omega), ihn]
      by_cases ha : rd xs[i] 0 = a
      · rw [if_pos ha, if_pos (by omega)]
        by_cases hb : rd xs[i] 1 = b
        · rw [if_pos hb]; simp [ha, hb]
        · rw [if_neg hb]; simp [hb]
      · rw [if_neg ha]; simp [ha]
    · obtain rfl : i = xs.length := by omega
      rw [spec_taHas.l0, if_neg (by omega), List.drop_length]
      rfl
theorem spec_taHas.told (xs : List (List Int)) (hn : xs.length ≤ 100000) (h2 : ∀ x ∈ xs, x.length = 2) (a b : Int) : spec_taHas.f (xs.length + 1) xs a b = some (impl_isTrue.has_ xs a b) := by
  unfold spec_taHas.f
  exact spec_taHas.l0_told xs hn h2 a b xs.length 0 (Nat.zero_le _) (Nat.le_refl _)
/-- The limits below m of which the talk is true of the pair. -/
def spec_taLimits.lims (a b : Int) (talk : ByteArray) (m : Nat) : List Int := ((List.range m).filter fun n : Nat => (decide (2 ≤ n) && decide (b ≤ (n : Int))) && impl_isTrue.has_ (impl_isTrue.lft (n : Int) talk) a b).map fun n : Nat => (n : Int)
theorem spec_taLimits.lims_yes (a b : Int) (talk : ByteArray) (m : Nat) (h2 : 2 ≤ m) (hb : b ≤ (m : Int)) (h : impl_isTrue.has_ (impl_isTrue.lft (m : Int) talk) a b = true) : spec_taLimits.lims a b talk (m + 1) = spec_taLimits.lims a b talk m ++ [(m : Int)] := by simp [spec_taLimits.lims, List.range_succ, h2, hb, h]
theorem spec_taLimits.lims_no (a b : Int) (talk : ByteArray) (m : Nat) (h : impl_isTrue.has_ (impl_isTrue.lft (m : Int) talk) a b = false) : spec_taLimits.lims a b talk (m + 1) = spec_taLimits.lims a b talk m := by simp [spec_taLimits.lims, List.range_succ, h]
theorem spec_taLimits.lims_nil (a b : Int) (talk : ByteArray) (m : Nat) (h : (m : Int) ≤ max 2 b) : spec_taLimits.lims a b talk m = [] := by
  unfold spec_taLimits.lims
  rw [List.map_eq_nil_iff, List.filter_eq_nil_iff]
  intro n hn
  have := List.mem_range.1 hn
  simp only [Bool.and_eq_true, decide_eq_true_eq]
  rintro ⟨⟨h1, h2⟩, _⟩
  omega
theorem spec_taLimits.lims_len (a b : Int) (talk : ByteArray) (m : Nat) : (spec_taLimits.lims a b talk m).length ≤ m := by
  unfold spec_taLimits.lims
  rw [List.length_map]
  exact Nat.le_trans (List.length_filter_le _ _) (by simp)
def spec_taLimits.f (a b : Int) (talk : ByteArray) : Option (List Int) := if (1 ≤ b ∧ b ≤ 40) ∧ impl_isTalk.ok talk = true then some (spec_taLimits.lims a b talk 41) else none
theorem spec_l1Most.told (b : Int) : spec_l1Most.f 2 b = some (max 2 b) := by
  unfold spec_l1Most.f
  first | rfl | (simp only [Option.some.injEq]; omega) | (by_cases h : (2 : Int) < b <;> simp [h] <;> omega) | (by_cases h : (2 : Int) > b <;> simp [h] <;> omega)
set_option maxHeartbeats 4000000 in
set_option maxRecDepth 100000 in
theorem spec_taLimits.calls (a b : Int) (talk : ByteArray) (r : List Int) (w : World) (h : spec_taLimits.f a b talk = some r) :
    Calls Try.prog 71 #[.int .i64 a, .int .i64 b, .string talk] w fun e w' => ∃ v0_ : Value, e = .returned v0_ ∧ Kd.R (Kd.int .i64) 3 w' w.heap.size (fun _ => True) v0_ r ∧ Below w.heap.size w w' := by
  have hc : (1 ≤ b ∧ b ≤ 40) ∧ impl_isTalk.ok talk = true := by
    unfold spec_taLimits.f at h
    split at h
    · assumption
    · cases h
  obtain rfl : spec_taLimits.lims a b talk 41 = r := by unfold spec_taLimits.f at h; rw [if_pos hc] at h; exact Option.some.inj h
  obtain ⟨h1, h2, h3, h4⟩ := impl_isTrue.parts talk hc.2
  have TM := Aside0.mk (fun W => spec_l1Most.calls 2 b (max 2 b) W (spec_l1Most.told b))
  have TL : Aside0 (∀ q : Nat, q ≤ 40 → ∀ W, Calls Try.prog 73 #[.int .i64 (q : Int), .string talk] W fun e w' => ∃ A c n, e = .returned (.slice A n c) ∧ Aside0 (Below W.heap.size W w' ∧ ∀ W', Below w'.heap.size w' W' → Calls Try.prog 98 #[.slice A n c, .int .i64 a, .int .i64 b] W' fun e w'' => e = .returned (.bool (impl_isTrue.has_ (impl_isTrue.lft (q : Int) talk) a b)) ∧ Below W'.heap.size W' w'')) := ⟨fun q hq W =>
    (spec_taLeft.has q hq talk (talk.size / 2) (by omega) h1 _ _ h3 h4 W).mono fun e w' he => by
      obtain ⟨v, rfl, ps, hH, hv, hok, hb⟩ := he
      obtain ⟨A, c, rfl, hcap, _⟩ := hH.slice
      refine ⟨A, c, _, rfl, ⟨hb, fun W' hW => ?_⟩⟩
      have hlen := Tk.vals_len ps
      have h5 := spec_taHas.calls ((Tk.vals ps).length + 1) A c (Tk.vals ps) a b _ W' (hH.below hW).C (by rw [hlen]; exact hcap) (spec_taHas.told (Tk.vals ps) (by rw [hlen]; have := hok.1; omega) (fun x hx => by obtain ⟨p, _, rfl⟩ := List.mem_map.1 hx; rfl) a b)
      rw [hlen, hv] at h5
      exact h5.mono fun e w'' h => ⟨h.1, h.2.below⟩⟩
  obtain ⟨⟨hb1, hb2⟩, _⟩ := hc
  clear h h3 h4
  obtain ⟨q0, hq0⟩ : ∃ q0 : Nat, max 2 b = (q0 : Int) := ⟨(max 2 b).toNat, by omega⟩
  have hqb : 2 ≤ q0 ∧ b ≤ (q0 : Int) ∧ q0 ≤ 40 := by omega
  have HQB := Aside0.mk hqb
  have HNIL := Aside0.mk (spec_taLimits.lims_nil a b talk q0 (by omega))
  rw [hq0] at TM
  clear hq0 hqb hb1 hb2
  go_enter Try.func71, Try.ntmps71
  go_wp2_with (go_at_call 106; refine (TM.out _).mono ?_; rintro e w2 ⟨rfl, hd⟩; have HD := Aside0.mk hd.below; clear hd)
  go_loopg [7, 8] 41 (fun gg s7 s8 wr => ∃ q : Nat, s8 = .int .i64 (q : Int) ∧ q ≤ 41 ∧ 41 - q ≤ gg ∧ Aside0 (2 ≤ q ∧ b ≤ (q : Int)) ∧ Aside0 (Kd.R (Kd.int .i64) 3 wr w.heap.size (fun _ => True) s7 (spec_taLimits.lims a b talk q) ∧ Below w.heap.size w wr))
  case atStart => exact ⟨q0, rfl, by have := HQB.out; omega, by omega, ⟨HQB.out.1, HQB.out.2.1⟩, ⟨by rw [HNIL.out]; exact Kd.R_nil _ _ _ _ _, HD.out⟩⟩
  case round =>
    obtain ⟨q, rfl, hq, hgg, HQ, HS⟩ := hrel
    by_cases hq40 : q ≤ 40
    · have hqz : (q : Int) ≤ 40 := by omega
      have hq0 : 0 ≤ (q : Int) := by omega
      have T1 := Aside0.mk (TL.out q hq40 wr)
      have hlen := spec_taLimits.lims_len a b talk q
      cases hb : impl_isTrue.has_ (impl_isTrue.lft (q : Int) talk) a b with
      | false =>
        have HL := Aside0.mk (spec_taLimits.lims_no a b talk q hb)
        rw [hb] at T1
        clear hb
        go_wp2_with (first
          | (go_at_call 73; refine T1.out.mono ?_; rintro e w3 ⟨A3, c3, n3, rfl, h3⟩; clear T1)
          | (go_at_call 98; refine (h3.out.2 _ (Below.refl _ _)).mono ?_; rintro e w4 ⟨rfl, hb4⟩; have HB4 := Aside0.mk hb4; clear hb4))
        go_roundg (41 - (q + 1))
        case measure => omega
        case rel => exact ⟨q + 1, by go_num, by omega, by omega, ⟨by have := HQ.out; omega, by have := HQ.out; omega⟩, ⟨by rw [HL.out]; exact Kd.R_below (Kd.R_below HS.out.1 h3.out.1) HB4.out, below_step (below_step HS.out.2 h3.out.1) HB4.out⟩⟩
      | true =>
        have HL := Aside0.mk (spec_taLimits.lims_yes a b talk q HQ.out.1 HQ.out.2 hb)
        rw [hb] at T1
        clear hb
        generalize spec_taLimits.lims a b talk q = xs at HS HL hlen
        go_wp2_with (first
          | (go_at_call 73; refine T1.out.mono ?_; rintro e w3 ⟨A3, c3, n3, rfl, h3⟩; clear T1)
          | (go_at_call 98; refine (h3.out.2 _ (Below.refl _ _)).mono ?_; rintro e w4 ⟨rfl, hb4⟩; have HS4 := Aside0.mk (show _ ∧ _ from ⟨Kd.R_below (Kd.R_below HS.out.1 h3.out.1) hb4, below_step (below_step HS.out.2 h3.out.1) hb4⟩); clear hb4)
          | ((with_reducible refine gate_builtin (b := .append) (xs := #[.tmp 21, .tmp 23]) rfl ?_); at_builtin; refine Kd.R_append (Kd.int .i64) (w0 := w) w.heap.size rfl (.tmp 21) (.tmp 23) 36 3 (.int .i64 0) 8 rfl Try.underlying36 (by kernel_rfl) rfl (by decide) (by omega) u7 xs (q : Int) [.int .i64 (q : Int)] (fun _ => True) (fun _ => False) rfl (by first | (go_simp; done) | (go_simp; rfl)) rfl (fun _ hk => hk.elim) (fun _ _ => trivial) HS4.out.1 HS4.out.2 HS4.out.2.size (by omega) ?_; intro v9 w9 ho hb hg hat; have HO9 := Aside0.mk (show _ ∧ _ from ⟨ho, hb⟩); clear ho hb hg hat))
        go_roundg (41 - (q + 1))
        case measure => omega
        case rel => exact ⟨q + 1, by go_num, by omega, by omega, ⟨by have := HQ.out; omega, by have := HQ.out; omega⟩, ⟨by rw [HL.out]; exact HO9.out.1, HO9.out.2⟩⟩
    · obtain rfl : q = 41 := by omega
      go_wp2
      go_ret
      exact ⟨_, rfl, HS.out.1, HS.out.2⟩

end Go.Proofs.Ytlkbphhmahipdaa.P
