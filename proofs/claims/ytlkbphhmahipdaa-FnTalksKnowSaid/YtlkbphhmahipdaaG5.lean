/- Calls of the functions of the given program return what the plain Lean functions of the same names return; and a row of a law out of its pure statement. Written by a program of this session out of the translation; Lean checks it. No condition. -/
import Derived.Test.YtlkbphhmahipdaaPk0
import Derived.Test.YtlkbphhmahipdaaG2
import Derived.Test.YtlkbphhmahipdaaPk25
import Derived.Test.YtlkbphhmahipdaaG1
import Derived.Test.YtlkbphhmahipdaaG4
import Derived.Test.YtlkbphhmahipdaaTk
import Derived.Test.YtlkbphhmahipdaaKn
import Derived.BigQuiet
import Derived.Test.YtlkbphhmahipdaaG0
namespace Go.Proofs.Ytlkbphhmahipdaa.P
open Go.RowKit Go.Proofs.YtlkbphhmahipdaaW.PrintWords Go.Proofs.YtlkbphhmahipdaaW.PrintLast Go.Proofs.YtlkbphhmahipdaaW.PrintMore
attribute [local go_sem] max2_int min2_int max_two min_two max_three min_three max_four min_four   -- for this text's walks alone
set_option linter.unusedVariables false
set_option linter.unusedSimpArgs false

/-! ### impl_IsTalk: function 40 -/
def impl_IsTalk.f (a0 : ByteArray) : Option (Bool) := (impl_isTalk.f a0).bind fun t223 => (some t223)
set_option maxHeartbeats 8000000 in
set_option maxRecDepth 100000 in
theorem impl_IsTalk.calls (a0 : ByteArray) (r : Bool) (w : World) (h : impl_IsTalk.f a0 = some r) :
  Calls Try.prog 40 #[.string a0] w fun e w' => e = .returned (.bool r) ∧ Below w.heap.size w w' := by
 have HB := Aside0.mk (Below.refl w.heap.size w)
 have H : ((impl_isTalk.f a0).bind fun t223 => (some t223)) = some r := h
 clear h
 replace H := Option.bind_eq_some_iff.mp H
 obtain ⟨t223, A20, H⟩ := H
 replace H : (some t223) = some r := H
 have A2 := Aside0.mk A20
 clear A20
 obtain rfl := Option.some.inj H
 go_enter Try.func40, Try.ntmps40
 go_wp2_with (first | ((with_reducible refine gate_callee (f := 75) rfl ?_); refine goesL_ (some 4) rfl rfl Try.func75 (by kernel_rfl) rfl #[.string a0] rfl (by (try simp only [List.map_toArray, List.map_cons, List.map_nil]); first | done | rfl | (simp only [List.length_drop, List.length_take]; rfl)) ?_; (with_reducible refine (impl_isTalk.calls a0 t223 _ A2.out).mono ?_); rintro e w3 ⟨rfl, hb⟩; refine ⟨_, rfl, ?_⟩; have n0_ := Aside0.mk (below_step (by repeat (first | (with_reducible first | exact HB.out | apply below_alloc | apply pw_below_drewN | apply below_drew1) | exact HB.out)) hb); clear HB; have HB := n0_; clear n0_; (try clear hb); (try clear hb2); (try clear hk); (try clear hi)))
 go_ret
 exact ⟨by first | rfl | (simp [errW_none, errW_some] <;> rfl) | (simp [*, errW_none, errW_some] <;> rfl), by repeat (first | (with_reducible first | exact HB.out | apply below_alloc | apply pw_below_drewN | apply below_drew1) | exact HB.out)⟩

end Go.Proofs.Ytlkbphhmahipdaa.P
namespace Go.Proofs.Ytlkbphhmahipdaa.P
open Go.RowKit Go.Proofs.YtlkbphhmahipdaaW.PrintWords Go.Proofs.YtlkbphhmahipdaaW.PrintLast Go.Proofs.YtlkbphhmahipdaaW.PrintMore
attribute [local go_sem] max2_int min2_int max_two min_two max_three min_three max_four min_four   -- for this text's walks alone
set_option linter.unusedVariables false
set_option linter.unusedSimpArgs false

/-! ### spec_DrawLongestTalk: function 41 -/
def spec_DrawLongestTalk.f (l0 : List Int) : Option (Int × ByteArray) := (spec_l1Cur_limit.f l0 0 0).bind fun bt225 => ((spec_l1Cur_speaker.f l0 bt225.2.1 bt225.2.2).bind fun bt228 => (some (bt225.1, bt228.1)))
set_option maxHeartbeats 8000000 in
set_option maxRecDepth 100000 in
theorem spec_DrawLongestTalk.calls (A0 : Option Addr) (c0 : Nat) (l0 : List Int) (r1 : Int) (r2 : ByteArray) (w : World) (hr0 : Kd.C (Kd.int .u8) w A0 l0.length l0) (hc0 : l0.length ≤ c0) (h : spec_DrawLongestTalk.f l0 = some (r1, r2)) :
  Calls Try.prog 41 #[.slice A0 l0.length c0] w fun e w' => e = .returned (.tuple #[.int .i64 r1, .string r2]) ∧ Below w.heap.size w w' := by
 have hu81 := Try.underlying81
 have HR0 := Aside0.mk hr0
 have HC0 := Aside0.mk hc0
 clear hr0 hc0
 have HB := Aside0.mk (Below.refl w.heap.size w)
 have H : ((spec_l1Cur_limit.f l0 0 0).bind fun bt225 => ((spec_l1Cur_speaker.f l0 bt225.2.1 bt225.2.2).bind fun bt228 => (some (bt225.1, bt228.1)))) = some (r1, r2) := h
 clear h
 replace H := Option.bind_eq_some_iff.mp H
 obtain ⟨⟨t225, t226, t227⟩, A20, H⟩ := H
 replace H : ((spec_l1Cur_speaker.f l0 t226 t227).bind fun bt228 => (some (t225, bt228.1))) = some (r1, r2) := H
 have A2 := Aside0.mk A20
 clear A20
 replace H := Option.bind_eq_some_iff.mp H
 obtain ⟨⟨t228, t229, t230⟩, A30, H⟩ := H
 replace H : (some (t225, t228)) = some (r1, r2) := H
 have A3 := Aside0.mk A30
 clear A30
 simp only [Option.some.injEq, Prod.mk.injEq] at H
 obtain ⟨rfl, rfl⟩ := H
 go_enter Try.func41, Try.ntmps41
 go_wp2_with (first | ((with_reducible refine gate_dst (N := 8) rfl ?_); refine box_event ?hg (N := 8) ?hd (cs := #[.slice A0 l0.length c0, .int .i64 0, .int .u64 0]) (t := 81) ?hr ?_; (case hd => rfl); (case hg => rfl); (case hr => first | (go_simp; done) | (go_simp; rfl)); intro gb224 hg w4 hbox hb; have n0_ := Aside0.mk (below_step (by repeat (first | (with_reducible first | exact HB.out | apply below_alloc | apply pw_below_drewN | apply below_drew1) | exact HB.out)) hb); have n1_ := Aside0.mk ((by rw [hg]; exact (below_size (by repeat (first | (with_reducible first | exact HB.out | apply below_alloc | apply pw_below_drewN | apply below_drew1) | exact HB.out))) : w.heap.size ≤ gb224)); have n2_ := Aside0.mk ((by rw [hg]; exact (below_size (by repeat (first | (with_reducible first | exact HB.out | apply below_alloc | apply pw_below_drewN | apply below_drew1) | exact HB.out))) : w.heap.size ≤ gb224)); have n3_ := Aside0.mk ((⟨_, _, hbox, (by rw [hg]; exact (below_size (by repeat (first | (with_reducible first | exact HB.out | apply below_alloc | apply pw_below_drewN | apply below_drew1) | exact HB.out))) : w.heap.size ≤ gb224), HR0.out⟩ : IsS81 w w4 gb224 l0 0 0)); clear HB; have HB := n0_; have GW224 := n1_; have GE224 := n2_; have HI224 := n3_; clear n0_ n1_ n2_ n3_; clear hb hbox hg) | ((with_reducible refine gate_callee (f := 84) rfl ?_); refine goesL_ (some 10) rfl rfl Try.func84 (by kernel_rfl) rfl #[.pointer (some ⟨gb224, 0, none⟩)] rfl (by (try simp only [List.map_toArray, List.map_cons, List.map_nil]); first | done | rfl | (simp only [List.length_drop, List.length_take]; rfl)) ?_; (with_reducible refine (spec_l1Cur_limit.calls gb224 l0 0 0 t225 t226 t227 w _ ?side1 ?side2 A2.out).mono ?_); (case side1 => repeat (first | (with_reducible first | exact HI224.out | apply IsS81.alloc | apply IsS81.drewN | apply IsS81.drew | apply IsS81.set_1 | apply IsS81.set_2) | exact HI224.out)); (case side2 => repeat (first | (with_reducible first | exact HB.out | apply below_alloc | apply pw_below_drewN | apply below_drew1 | refine below_set ?_ (IsS81.ge HI224.out)) | exact HB.out)); rintro e w5 ⟨rfl, hi, hb, hk⟩; refine ⟨_, rfl, ?_⟩; have n0_ := Aside0.mk (hb); have n1_ := Aside0.mk (hi); clear HB; clear HI224; have HB := n0_; have HI224 := n1_; clear n0_ n1_; (try clear hb); (try clear hb2); (try clear hk); (try clear hi)) | ((with_reducible refine gate_callee (f := 86) rfl ?_); refine goesL_ (some 13) rfl rfl Try.func86 (by kernel_rfl) rfl #[.pointer (some ⟨gb224, 0, none⟩)] rfl (by (try simp only [List.map_toArray, List.map_cons, List.map_nil]); first | done | rfl | (simp only [List.length_drop, List.length_take]; rfl)) ?_; (with_reducible refine (spec_l1Cur_speaker.calls gb224 l0 t226 t227 t228 t229 t230 w _ ?side1 ?side2 A3.out).mono ?_); (case side1 => repeat (first | (with_reducible first | exact HI224.out | apply IsS81.alloc | apply IsS81.drewN | apply IsS81.drew | apply IsS81.set_1 | apply IsS81.set_2) | exact HI224.out)); (case side2 => repeat (first | (with_reducible first | exact HB.out | apply below_alloc | apply pw_below_drewN | apply below_drew1 | refine below_set ?_ (IsS81.ge HI224.out)) | exact HB.out)); rintro e w6 ⟨rfl, hi, hb, hk⟩; refine ⟨_, rfl, ?_⟩; have n0_ := Aside0.mk (hb); have n1_ := Aside0.mk (hi); clear HB; clear HI224; have HB := n0_; have HI224 := n1_; clear n0_ n1_; (try clear hb); (try clear hb2); (try clear hk); (try clear hi)))
 go_ret2
 exact ⟨by first | rfl | (simp [errW_none, errW_some] <;> rfl) | (simp [*, errW_none, errW_some] <;> rfl), by repeat (first | (with_reducible first | exact HB.out | apply below_alloc | apply pw_below_drewN | apply below_drew1 | refine below_set ?_ (IsS81.ge HI224.out)) | exact HB.out)⟩

end Go.Proofs.Ytlkbphhmahipdaa.P
namespace Go.Proofs.Ytlkbphhmahipdaa.P
open Go.RowKit Go.Proofs.YtlkbphhmahipdaaW.PrintWords Go.Proofs.YtlkbphhmahipdaaW.PrintLast Go.Proofs.YtlkbphhmahipdaaW.PrintMore
attribute [local go_sem] max2_int min2_int max_two min_two max_three min_three max_four min_four   -- for this text's walks alone
set_option linter.unusedVariables false
set_option linter.unusedSimpArgs false

/-! ### spec_taTimes: function 95, by hand -/
-- IMPORT Derived.Test.YtlkbphhmahipdaaTk
-- IMPORT Derived.Test.YtlkbphhmahipdaaKn
-- IMPORT Derived.BigQuiet
theorem spec_taTimes.kept {ts te : TypeId} {W W' : World} {base lo g : Nat} {v : Value} {ps : List Tk.PP} (h : Tk.Has ts te W base lo v ps) (hg : W.grownBy W' (some g)) (h1 : v.ownBlock ≠ some g) (h2 : ∀ p ∈ ps, p.1 ≠ g) : Tk.Has ts te W' base lo v ps := by
  refine ⟨⟨h.row.1, ?_⟩, fun p hp => ?_, h.nod, h.ap⟩
  · rcases h.row.2 with h3 | ⟨g', cap', cur, h3, h4, h5, h6⟩
    · exact .inl h3
    · refine .inr ⟨g', cap', cur, h3, h4, (hg.block g' (Array.getElem?_eq_some_iff.1 h5).1 (fun e => ?_)).trans h5, h6⟩
      subst h3
      exact h1 e
  · obtain ⟨h3, h4⟩ := h.inn p hp
    refine ⟨h3, (hg.block p.1 (Array.getElem?_eq_some_iff.1 h4).1 (fun e => ?_)).trans h4⟩
    injection e with e
    exact h2 p hp e
/-- Behind how many statements each pair is known. -/
def spec_taTimes.row (n : Nat) (s : Bool) (k : Nat) : List Int := (impl_left.pairs n).map fun x => (Kn.fst (impl_left.pairs n) s x k : Int)
def spec_taTimes.mix (n : Nat) (s : Bool) (k i : Nat) : List Int := Kn.mix (fun x => (Kn.fst (impl_left.pairs n) s x (k + 1) : Int)) (fun x => (Kn.fst (impl_left.pairs n) s x k : Int)) (impl_left.pairs n) i
set_option maxHeartbeats 8000000 in
set_option maxRecDepth 100000 in
theorem spec_taTimes.has (n : Nat) (hn2 : 2 ≤ n) (hn : n ≤ 40) (s : Bool) (w : World) :
    Calls Try.prog 95 #[.int .i64 (n : Int), .string (Tk.wh s)] w fun e w' => ∃ v : Value, e = .returned v ∧ Aside0 (Kd.R (Kd.int .i64) 3 w' w.heap.size (fun _ => True) v ((impl_left.pairs n).map fun x => (Kn.kt (impl_left.pairs n) s x : Int)) ∧ Below w.heap.size w w') := by
  have TA : Aside0 (∀ W, Calls Try.prog 94 #[.int .i64 (n : Int)] W fun e w' => ∃ (A : Option Addr) (c : Nat) (qs : List Tk.PP), e = .returned (.slice A qs.length c) ∧ Aside0 (Tk.Has 36 3 w' W.heap.size W.heap.size (.slice A qs.length c) qs ∧ Tk.vals qs = impl_left.pairs n ∧ Below W.heap.size W w')) := ⟨fun W => (spec_taPairs.has n hn W).mono fun e w' he => by
    obtain ⟨v, rfl, ps, h1, h2, h3⟩ := he
    obtain ⟨A, c, rfl, _, _⟩ := h1.slice
    exact ⟨A, c, ps, rfl, ⟨h1, h2, h3⟩⟩⟩
  have HL := Aside0.mk (impl_left.pairs_le n hn)
  have HT := Aside0.mk (impl_left.two n)
  have HK := Aside0.mk (fun ps => impl_left.ok_all (fun _ _ => true) n hn ps)
  have H1A : Aside0 (0 < (impl_left.pairs n).length) := ⟨List.length_pos_of_mem (impl_left.mem_pairs n 1 1 (by omega))⟩
  have HW0 : Aside0 (∃ wo, wo = Tk.wh s) := ⟨_, rfl⟩
  obtain ⟨wo0, hwo⟩ := HW0.out
  have HW := Aside0.mk hwo
  rw [← hwo]
  clear HW0 hwo hn2
  go_enter Try.func95, Try.ntmps95
  go_wp2_with (first
    | (go_at_call 94; refine (TA.out _).mono ?_; rintro e w2 ⟨A5, c5, qs, rfl, H2⟩; have hql : qs.length ≤ 1600 := (by have h8 := HL.out; rw [← H2.out.2.1, Tk.vals_len] at h8; exact h8))
    | (at_make; refine Kd.R_make (Kd.int .i64) (w0 := w2) w2.heap.size 3 rfl (N := 17) rfl 36 _ _ rfl (qs.length : Int) rfl rfl Try.underlying36 (.int .i64 0) 8 (by kernel_rfl) rfl (by decide) (by omega) 0 (ok := fun _ => True) (okp := fun _ => True) rfl (fun _ hk => hk) trivial (by omega) (by omega) (Below.refl _ _) (Nat.le_refl _) ?_; intro v5 w5 ho5 hb5 hg5 hn5; have R5 := Aside0.mk (show _ ∧ _ from ⟨ho5, hb5⟩); clear ho5 hb5 hg5 hn5))
  have hq0 : 0 < qs.length := by have h8 := H1A.out; rw [← H2.out.2.1, Tk.vals_len] at h8; exact h8
  obtain ⟨g, cap, e5, hg1, hg2, _⟩ := Kd.R_form R5.out.1 (by simpa using hq0)
  have el : (List.replicate (qs.length : Int).toNat (0 : Int)).length = qs.length := by simp
  rw [el] at e5
  subst e5
  have HG1 := Aside0.mk hg1
  have HQL := Aside0.mk (show qs.length = (impl_left.pairs n).length by rw [← H2.out.2.1, Tk.vals_len])
  have HS0 := Aside0.mk (show Kd.R (Kd.int .i64) 3 w5 w2.heap.size (fun _ => True) (.slice (some ⟨g, 0, none⟩) qs.length cap) (spec_taTimes.row n s 0) ∧ Below w2.heap.size w2 w5 from ⟨by
    have h8 := R5.out.1
    have e : List.replicate (qs.length : Int).toNat (0 : Int) = spec_taTimes.row n s 0 := by
      rw [show (qs.length : Int).toNat = qs.length by omega, HQL.out]
      unfold spec_taTimes.row
      show _ = (impl_left.pairs n).map fun x => (0 : Int)
      rw [List.map_const']
    rw [e] at h8
    exact h8, R5.out.2⟩)
  clear R5 hg1 hg2 el
  go_loopg [1, 7, 8, 9] (Kn.pot (impl_left.pairs n) s 0) (fun gg s1 s7 s8 s9 wr => ∃ (k b lo c : Nat) (st kk : Int) (wo : ByteArray) (A : Option Addr) (ps : List Tk.PP), s1 = .string wo ∧ s7 = .slice A ps.length c ∧ s8 = .int .i64 st ∧ s9 = .int .i64 kk ∧ Aside0 (wo = Tk.wh (Kn.alt s k) ∧ st = (Kn.still (impl_left.pairs n) s k : Int) ∧ kk = (k : Int) + 1) ∧ Kn.pot (impl_left.pairs n) s k ≤ gg ∧ Aside0 (∀ j, j < k → Kn.still (impl_left.pairs n) s j < 2) ∧ Aside0 (Tk.Has 36 3 wr b lo (.slice A ps.length c) ps ∧ Tk.vals ps = Kn.rests (impl_left.pairs n) s k ∧ Tk.Ok ps ∧ (Value.slice A ps.length c).ownBlock ≠ some g ∧ ∀ p ∈ ps, p.1 ≠ g) ∧ Aside0 (Kd.R (Kd.int .i64) 3 wr w2.heap.size (fun _ => True) (.slice (some ⟨g, 0, none⟩) qs.length cap) (spec_taTimes.row n s k) ∧ Below w2.heap.size w2 wr))
  case atStart =>
    refine ⟨0, _, _, c5, 0, 1, wo0, A5, qs, rfl, rfl, rfl, rfl, ⟨HW.out, by simp [Kn.still], by simp⟩, Nat.le_refl _, ⟨fun j hj => absurd hj (Nat.not_lt_zero j)⟩, ⟨H2.out.1.below HS0.out.2, H2.out.2.1, HK.out qs H2.out.2.1, fun e => ?_, fun p hp e => ?_⟩, ⟨HS0.out.1, HS0.out.2⟩⟩
    · have := (H2.out.1.lt g e).2; have := HG1.out; omega
    · have := H2.out.1.inn.lt p hp; have := HG1.out; omega
  case round =>
    obtain ⟨k, b, lo, c, st, kk, wo, A, ps, rfl, rfl, rfl, rfl, HE, hgg, HJ, HP, HM⟩ := hrel
    clear HS0 TA
    have hN := Kn.pot_bd (A := impl_left.pairs n) (s := s) k HJ.out
    have hk : k ≤ 4000 := by have := HL.out; omega
    clear hN
    by_cases hs2 : Kn.still (impl_left.pairs n) s k < 2
    · have hst : st < 2 := by have := HE.out.2.1; omega
      have hst0 : 0 ≤ st := by have := HE.out.2.1; omega
      have hkk0 : 0 ≤ kk := by have := HE.out.2.2; omega
      have hkk1 : kk ≤ 5000 := by have := HE.out.2.2; omega
      have HS2 := Aside0.mk hs2
      have HPT := Aside0.mk (Kn.pot_succ hs2)
      clear hs2 hk
      obtain ⟨rs, hrs⟩ : ∃ rs, rs = impl_behind.sel (Kn.alt s k) 45 ps := ⟨_, rfl⟩
      have T1 : Aside0 (Calls Try.prog 77 #[.slice A ps.length c, .string wo, .int .u8 45] wr fun e w' => ∃ A1 c1, e = .returned (.slice A1 rs.length c1) ∧ Aside0 (Tk.Has 36 3 w' wr.heap.size lo (.slice A1 rs.length c1) rs ∧ Below wr.heap.size wr w')) := ⟨by
        rw [HE.out.1, hrs]
        exact spec_taKnown.says (Kn.alt s k) b lo c A ps wr HP.out.1 HP.out.2.2.1⟩
      have HQ : Aside0 (Tk.vals rs = Kn.rests (impl_left.pairs n) s (k + 1) ∧ Tk.Ok rs ∧ ∀ p ∈ rs, p.1 ≠ g) := ⟨by
        refine ⟨?_, ?_, fun p hp => HP.out.2.2.2.2 p ?_⟩
        · rw [hrs, impl_behind.sel_vals, HP.out.2.1]; rfl
        · rw [hrs]; exact impl_behind.sel_ok _ _ _ HP.out.2.2.1
        · rw [hrs] at hp; exact (List.mem_filter.1 hp).1⟩
      have hrl : rs.length ≤ 2000 := HQ.out.2.1.1
      have hpl : ps.length ≤ 2000 := HP.out.2.2.1.1
      have hle : rs.length ≤ ps.length := by
        have := Kn.rests_le (A := impl_left.pairs n) (s := s) k
        rw [← HQ.out.1, ← HP.out.2.1, Tk.vals_len, Tk.vals_len] at this
        exact this
      have HLE := Aside0.mk hle
      have HGW : Aside0 (g < wr.heap.size) := ⟨by
        obtain ⟨g', cap', e', _, h8, _⟩ := Kd.R_form HM.out.1 (by rw [spec_taTimes.row, List.length_map]; exact H1A.out)
        injection e' with e' _ _
        injection e' with e'
        injection e' with e'
        omega⟩
      clear hle hrs
      go_wp2_with (go_at_call 77; refine T1.out.mono ?_; rintro e w3 ⟨A1, c1, rfl, H1⟩; clear T1)
      go_loopg [28] qs.length (fun gg s28 wi => ∃ i : Nat, s28 = .int .i64 (i : Int) ∧ i ≤ qs.length ∧ qs.length - i ≤ gg ∧ Aside0 (Kd.R (Kd.int .i64) 3 wi w2.heap.size (fun _ => True) (.slice (some ⟨g, 0, none⟩) qs.length cap) (spec_taTimes.mix n s k i) ∧ Below w2.heap.size w2 wi ∧ w3.grownBy wi (some g)))
      case atStart =>
        refine ⟨0, rfl, Nat.zero_le _, by omega, ⟨?_, below_step HM.out.2 H1.out.2, ⟨rfl, rfl, rfl, Nat.le_refl _, fun _ _ _ => rfl⟩⟩⟩
        rw [spec_taTimes.mix, Kn.mix_zero]
        exact Kd.R_below HM.out.1 H1.out.2
      case round =>
        obtain ⟨i, rfl, hi, hgi, HI⟩ := hrel
        by_cases hil : i < qs.length
        · have hiz : (i : Int) < (qs.length : Int) := by omega
          have hH := H2.out.1.below HI.out.2.1
          obtain ⟨g0, cap0, ev, hcell⟩ := hH.at_ i hil
          obtain ⟨rfl, rfl⟩ : A5 = some ⟨g0, 0, none⟩ ∧ c5 = cap0 := by injection ev with e1 e2 e3; exact ⟨e1, e3⟩
          obtain ⟨p, hpe⟩ : ∃ p, p = qs[i] := ⟨_, rfl⟩
          rw [← hpe] at hcell
          have hpm : p ∈ qs := by rw [hpe]; exact List.getElem_mem hil
          obtain ⟨Bp, x, y⟩ := p
          obtain ⟨hc0, hc1⟩ := hH.inn.cells _ hpm
          dsimp only at hc0 hc1
          have hxA : [x, y] ∈ impl_left.pairs n := by rw [← H2.out.2.1]; exact List.mem_map.2 ⟨_, hpm, rfl⟩
          have hilA : i < (impl_left.pairs n).length := by have := HQL.out; omega
          have ex : (impl_left.pairs n)[i] = [x, y] := by
            have : (Tk.vals qs)[i]'(by rw [Tk.vals_len]; exact hil) = [x, y] := by simp [Tk.vals, ← hpe, Tk.vl]
            rw [← this]
            congr 1
            exact H2.out.2.1.symm
          obtain ⟨hm1, hm2⟩ := Kd.R_celln (0 : Int) HI.out.1 (i : Int) (by omega) hiz
          have hput := fun m => Kd.R_putg (Kd.R_drewN HI.out.1 m) (i : Int) kk
          have erd : rdOf (0 : Int) (spec_taTimes.mix n s k i) (i : Int) = (Kn.fst (impl_left.pairs n) s [x, y] k : Int) := by
            rw [rdOf, spec_taTimes.mix, Int.toNat_natCast, Kn.mix_at _ _ _ _ hilA, ex]
          rw [erd, Int.toNat_natCast] at hm1
          rw [Int.toNat_natCast] at hm2
          have HPS : Aside0 (Tk.Has 36 3 wr b lo (.slice A ps.length c) ps) := ⟨spec_taTimes.kept (HP.out.1.below H1.out.2) HI.out.2.2 HP.out.2.2.2.1 HP.out.2.2.2.2⟩
          have HRS : Aside0 (Tk.Has 36 3 wr _ lo (.slice A1 rs.length c1) rs) := ⟨spec_taTimes.kept H1.out.1 HI.out.2.2 (fun e => by have := (H1.out.1.lt g e).1; have := HGW.out; omega) HQ.out.2.2⟩
          have HV1 : Aside0 (∀ m, Calls Try.prog 98 #[.slice A ps.length c, .int .i64 x, .int .i64 y] (wr.drewN m) fun e w2 => e = .returned (.bool (decide ([x, y] ∈ Kn.rests (impl_left.pairs n) s k))) ∧ ∃ j, w2 = (wr.drewN m).drewN j) := ⟨fun m => by
            have := spec_taKnown.hass b lo c A ps (wr.drewN m) (HPS.out.below (pw_below_drewN (Below.refl _ _) m)) HP.out.2.2.1 x y
            rw [HP.out.2.1, spec_taKnown.mem_has (impl_left.pairs n) HT.out _ (fun x hx => Kn.rests_all k x hx) x y] at this
            exact this⟩
          have HV2 : Aside0 (∀ m, Calls Try.prog 98 #[.slice A1 rs.length c1, .int .i64 x, .int .i64 y] (wr.drewN m) fun e w2 => e = .returned (.bool (decide ([x, y] ∈ Kn.rests (impl_left.pairs n) s (k + 1)))) ∧ ∃ j, w2 = (wr.drewN m).drewN j) := ⟨fun m => by
            have := spec_taKnown.hass _ lo c1 A1 rs (wr.drewN m) (HRS.out.below (pw_below_drewN (Below.refl _ _) m)) HQ.out.2.1 x y
            rw [HQ.out.1, spec_taKnown.mem_has (impl_left.pairs n) HT.out _ (fun x hx => Kn.rests_all (k + 1) x hx) x y] at this
            exact this⟩
          have HSAME : Aside0 (Kn.fst (impl_left.pairs n) s [x, y] (k + 1) = Kn.fst (impl_left.pairs n) s [x, y] k → spec_taTimes.mix n s k (i + 1) = spec_taTimes.mix n s k i) := ⟨fun e => by
            refine (Kn.mix_same _ _ _ _ hilA ?_).symm
            rw [ex, e]⟩
          have HSET : Aside0 (Kn.fst (impl_left.pairs n) s [x, y] (k + 1) = k + 1 → ∀ m, Kd.R (Kd.int .i64) 3 ((wr.drewN m).setCell ⟨g, i, none⟩ (.int .i64 kk)) w2.heap.size (fun _ => True) (.slice (some ⟨g, 0, none⟩) qs.length cap) (spec_taTimes.mix n s k (i + 1)) ∧ Below w2.heap.size w2 ((wr.drewN m).setCell ⟨g, i, none⟩ (.int .i64 kk)) ∧ w3.grownBy ((wr.drewN m).setCell ⟨g, i, none⟩ (.int .i64 kk)) (some g)) := ⟨fun e m => by
            have e2 : (spec_taTimes.mix n s k i).set i kk = spec_taTimes.mix n s k (i + 1) := by
              have := Kn.mix_set (fun x => (Kn.fst (impl_left.pairs n) s x (k + 1) : Int)) (fun x => (Kn.fst (impl_left.pairs n) s x k : Int)) (impl_left.pairs n) i hilA
              rw [ex, e] at this
              rw [HE.out.2.2]
              exact this
            have hput := hput m
            rw [Int.toNat_natCast, e2] at hput
            have h0 := HI.out.2.2
            have h1 := hput.2
            exact ⟨hput.1, below_set (pw_below_drewN HI.out.2.1 m) HG1.out, ⟨h1.os.trans h0.os, h1.tape.trans h0.tape, h1.output.trans h0.output, Nat.le_trans h0.size h1.size, fun j hj hne => (h1.block j (Nat.lt_of_lt_of_le hj h0.size) hne).trans (h0.block j hj hne)⟩⟩⟩
          have hf0 := Kn.fst_succ (A := impl_left.pairs n) (s := s) [x, y] k
          have HXA := Aside0.mk hxA
          unfold Tk.cv at hcell
          dsimp only at hcell
          clear hH hpe hpm ev ex hput erd hilA hxA
          obtain ⟨fk, hfk⟩ : ∃ fk : Nat, fk = Kn.fst (impl_left.pairs n) s [x, y] k := ⟨_, rfl⟩
          rw [← hfk] at hf0 hm1
          have HFK := Aside0.mk hfk
          have HF0 := Aside0.mk hf0
          clear hf0 hfk
          by_cases hf : fk = 0
          · have hin : [x, y] ∈ Kn.rests (impl_left.pairs n) s k := Kn.fst_in HXA.out (by rw [← HFK.out]; exact hf)
            rw [decide_eq_true hin] at HV1
            subst hf
            by_cases hin2 : [x, y] ∈ Kn.rests (impl_left.pairs n) s (k + 1)
            · rw [decide_eq_true hin2] at HV2
              have HNX : Aside0 (spec_taTimes.mix n s k (i + 1) = spec_taTimes.mix n s k i) := ⟨HSAME.out (by rw [← HFK.out, HF0.out]; simp [hin2])⟩
              clear hin hin2 HSAME HSET
              go_wp2_with fail
              go_quiet (first
                | (go_at_call 98; (with_reducible exact Calls.quiet_of (HV1.out _)))
                | (go_at_call 98; (with_reducible exact Calls.quiet_of (HV2.out _))))
              go_wp2
              go_roundg (qs.length - (i + 1))
              case measure => omega
              case rel => exact ⟨i + 1, by go_num, by omega, Nat.le_refl _, ⟨by rw [HNX.out]; exact Kd.R_drewN HI.out.1 _, pw_below_drewN HI.out.2.1 _, (have h := HI.out.2.2; ⟨h.os, h.tape, h.output, h.size, h.block⟩)⟩⟩
            · rw [decide_eq_false hin2] at HV2
              have HNX := Aside0.mk (HSET.out (by rw [HF0.out]; simp [hin2]))
              clear hin hin2 HSAME HSET
              go_wp2_with fail
              go_quiet (first
                | (go_at_call 98; (with_reducible exact Calls.quiet_of (HV1.out _)))
                | (go_at_call 98; (with_reducible exact Calls.quiet_of (HV2.out _))))
              go_wp2
              go_roundg (qs.length - (i + 1))
              case measure => omega
              case rel => exact ⟨i + 1, by go_num, by omega, Nat.le_refl _, ⟨(HNX.out _).1, (HNX.out _).2.1, (HNX.out _).2.2⟩⟩
          · have hfz : ((fk : Int) == 0) = false := by simpa using hf
            have hfz2 : decide ((fk : Int) = 0) = false := by simpa using hf
            have HNX : Aside0 (spec_taTimes.mix n s k (i + 1) = spec_taTimes.mix n s k i) := ⟨HSAME.out (by rw [HF0.out, if_pos hf, HFK.out])⟩
            clear HSAME HSET hf
            go_wp2_with fail
            go_quiet (fail)
            go_wp2
            go_roundg (qs.length - (i + 1))
            case measure => omega
            case rel => exact ⟨i + 1, by go_num, by omega, Nat.le_refl _, ⟨by rw [HNX.out]; exact Kd.R_drewN HI.out.1 _, pw_below_drewN HI.out.2.1 _, (have h := HI.out.2.2; ⟨h.os, h.tape, h.output, h.size, h.block⟩)⟩⟩
        · have hiz : ¬ (i : Int) < (qs.length : Int) := by omega
          obtain rfl : i = qs.length := by omega
          have HR : Aside0 (Kd.R (Kd.int .i64) 3 wr w2.heap.size (fun _ => True) (.slice (some ⟨g, 0, none⟩) qs.length cap) (spec_taTimes.row n s (k + 1)) ∧ Below w2.heap.size w2 wr) := ⟨by
            have h8 := HI.out.1
            rw [spec_taTimes.mix, HQL.out, Kn.mix_full] at h8
            rw [HQL.out]
            exact h8, HI.out.2.1⟩
          have HRS : Aside0 (Tk.Has 36 3 wr _ lo (.slice A1 rs.length c1) rs ∧ (Value.slice A1 rs.length c1).ownBlock ≠ some g) := ⟨spec_taTimes.kept H1.out.1 HI.out.2.2 (fun e => by have := (H1.out.1.lt g e).1; have := HGW.out; omega) HQ.out.2.2, (fun e => by have := (H1.out.1.lt g e).1; have := HGW.out; omega)⟩
          have HC : Aside0 (Kn.still (impl_left.pairs n) s (k + 1) = if rs.length < ps.length then 0 else Kn.still (impl_left.pairs n) s k + 1) := ⟨by
            have e : Kn.still (impl_left.pairs n) s (k + 1) = if (Kn.rests (impl_left.pairs n) s (k + 1)).length < (Kn.rests (impl_left.pairs n) s k).length then 0 else Kn.still (impl_left.pairs n) s k + 1 := rfl
            rw [e, ← HQ.out.1, ← HP.out.2.1, Tk.vals_len, Tk.vals_len]⟩
          have HOW : Aside0 ((wo.toList = [115] ↔ Kn.alt s k = true)) := ⟨by
            rw [HE.out.1]
            cases Kn.alt s k <;> simp [Tk.wh]⟩
          have HJ2 : Aside0 (∀ j, j < k + 1 → Kn.still (impl_left.pairs n) s j < 2) := ⟨fun j hj => by
            rcases Nat.lt_succ_iff_lt_or_eq.1 hj with h | rfl
            · exact HJ.out j h
            · exact HS2.out⟩
          clear HI hgi
          by_cases hlt : rs.length = ps.length
          · have hneq : ((rs.length : Int) != (ps.length : Int)) = false := by simp [hlt]
            have HLT := Aside0.mk hlt
            clear hlt
            cases hal : Kn.alt s k with
            | true =>
              have hwo : wo.toList = ([115] : List UInt8) := HOW.out.2 hal
              have hwb : (wo.toList == ([115] : List UInt8)) = true := by simp [hwo]
              have HAL := Aside0.mk hal
              clear hal
              go_wp2
              go_roundg (Kn.pot (impl_left.pairs n) s (k + 1))
              case measure => have := HPT.out; omega
              case rel =>
                refine ⟨k + 1, _, lo, c1, st + 1, kk + 1, _, A1, rs, rfl, rfl, by go_num, by go_num, ⟨by rw [Kn.alt_succ, HAL.out]; rfl, ?_, by rw [HE.out.2.2]; omega⟩, Nat.le_refl _, HJ2, ⟨HRS.out.1, HQ.out.1, HQ.out.2.1, HRS.out.2, HQ.out.2.2⟩, HR⟩
                rw [HC.out, if_neg (by have := HLT.out; omega)]; have := HE.out.2.1; omega
            | false =>
              have hwo : ¬ wo.toList = ([115] : List UInt8) := fun h => by rw [HOW.out.1 h] at hal; cases hal
              have hwb : (wo.toList == ([115] : List UInt8)) = false := by simp [hwo]
              have HAL := Aside0.mk hal
              clear hal
              go_wp2
              go_roundg (Kn.pot (impl_left.pairs n) s (k + 1))
              case measure => have := HPT.out; omega
              case rel =>
                refine ⟨k + 1, _, lo, c1, st + 1, kk + 1, _, A1, rs, rfl, rfl, by go_num, by go_num, ⟨by rw [Kn.alt_succ, HAL.out]; rfl, ?_, by rw [HE.out.2.2]; omega⟩, Nat.le_refl _, HJ2, ⟨HRS.out.1, HQ.out.1, HQ.out.2.1, HRS.out.2, HQ.out.2.2⟩, HR⟩
                rw [HC.out, if_neg (by have := HLT.out; omega)]; have := HE.out.2.1; omega
          · have hneq : ((rs.length : Int) != (ps.length : Int)) = true := by simp; omega
            have hneq2 : ¬ (rs.length : Int) = (ps.length : Int) := by omega
            have HLT := Aside0.mk (show rs.length < ps.length by have := HLE.out; omega)
            clear hlt
            cases hal : Kn.alt s k with
            | true =>
              have hwo : wo.toList = ([115] : List UInt8) := HOW.out.2 hal
              have hwb : (wo.toList == ([115] : List UInt8)) = true := by simp [hwo]
              have HAL := Aside0.mk hal
              clear hal
              go_wp2
              go_roundg (Kn.pot (impl_left.pairs n) s (k + 1))
              case measure => have := HPT.out; omega
              case rel =>
                refine ⟨k + 1, _, lo, c1, 0, kk + 1, _, A1, rs, rfl, rfl, by go_num, by go_num, ⟨by rw [Kn.alt_succ, HAL.out]; rfl, ?_, by rw [HE.out.2.2]; omega⟩, Nat.le_refl _, HJ2, ⟨HRS.out.1, HQ.out.1, HQ.out.2.1, HRS.out.2, HQ.out.2.2⟩, HR⟩
                rw [HC.out, if_pos HLT.out]; rfl
            | false =>
              have hwo : ¬ wo.toList = ([115] : List UInt8) := fun h => by rw [HOW.out.1 h] at hal; cases hal
              have hwb : (wo.toList == ([115] : List UInt8)) = false := by simp [hwo]
              have HAL := Aside0.mk hal
              clear hal
              go_wp2
              go_roundg (Kn.pot (impl_left.pairs n) s (k + 1))
              case measure => have := HPT.out; omega
              case rel =>
                refine ⟨k + 1, _, lo, c1, 0, kk + 1, _, A1, rs, rfl, rfl, by go_num, by go_num, ⟨by rw [Kn.alt_succ, HAL.out]; rfl, ?_, by rw [HE.out.2.2]; omega⟩, Nat.le_refl _, HJ2, ⟨HRS.out.1, HQ.out.1, HQ.out.2.1, HRS.out.2, HQ.out.2.2⟩, HR⟩
                rw [HC.out, if_pos HLT.out]; rfl
    · have hst : ¬ st < 2 := by have := HE.out.2.1; omega
      have HS2 := Aside0.mk (Nat.le_of_not_lt hs2)
      clear hs2
      have HK4 := Aside0.mk hk
      clear hk
      go_wp2
      go_ret
      have e : spec_taTimes.row n s k = (impl_left.pairs n).map fun x => (Kn.kt (impl_left.pairs n) s x : Int) := by
        unfold spec_taTimes.row
        refine List.map_congr_left fun x hx => ?_
        rw [Kn.kt_of_end HS2.out HK4.out hx]
      refine ⟨_, rfl, ⟨?_, below_step H2.out.2.2 HM.out.2⟩⟩
      rw [← e]
      exact Kd.R_lower HM.out.1 H2.out.2.2.size
def spec_taTimes.f (n : Int) (who : ByteArray) : Option (List Int) := if decide (2 ≤ n ∧ n ≤ 40) && Kn.who who then some ((impl_left.pairs n.toNat).map fun x => (Kn.kt (impl_left.pairs n.toNat) (Kn.sp who) x : Int)) else none
theorem spec_taTimes.calls (n : Int) (who : ByteArray) (r : List Int) (w : World) (h : spec_taTimes.f n who = some r) :
    Calls Try.prog 95 #[.int .i64 n, .string who] w fun e w' => ∃ v0_ : Value, e = .returned v0_ ∧ Kd.R (Kd.int .i64) 3 w' w.heap.size (fun _ => True) v0_ r ∧ Below w.heap.size w w' := by
  unfold spec_taTimes.f at h
  split at h
  · rename_i hc
    simp only [Bool.and_eq_true, decide_eq_true_eq] at hc
    obtain ⟨m, rfl⟩ := Int.eq_ofNat_of_zero_le (show 0 ≤ n by omega)
    obtain rfl := Option.some.inj h
    have := spec_taTimes.has m (by omega) (by omega) (Kn.sp who) w
    rw [← Kn.wh_of hc.2] at this
    refine this.mono fun e w' he => ?_
    obtain ⟨v, rfl, h⟩ := he
    exact ⟨v, rfl, h.out.1, h.out.2⟩
  · cases h

end Go.Proofs.Ytlkbphhmahipdaa.P
namespace Go.Proofs.Ytlkbphhmahipdaa.P
open Go.RowKit Go.Proofs.YtlkbphhmahipdaaW.PrintWords Go.Proofs.YtlkbphhmahipdaaW.PrintLast Go.Proofs.YtlkbphhmahipdaaW.PrintMore
attribute [local go_sem] max2_int min2_int max_two min_two max_three min_three max_four min_four   -- for this text's walks alone
set_option linter.unusedVariables false
set_option linter.unusedSimpArgs false

/-! ### spec_LongestTalk: function 42 -/
mutual
def spec_LongestTalk.j0 : Nat → Int → ByteArray → Bool → Option (Int × Int × Int × Bool)
 | 0, _, _, _ => none
 | k + 1, x0, x1, x20 => if x20 = true then (some (0, 0, 0, false)) else ((spec_taPairs.f x0).bind fun t233 => ((spec_taTimes.f x0 x1).bind fun t236 => (spec_LongestTalk.l0 k t233 0 0 t236 (t236.length : Int) 0)))
def spec_LongestTalk.l0 : Nat → List (List Int) → Int → Int → List Int → Int → Int → Option (Int × Int × Int × Bool)
 | 0, _, _, _, _, _, _ => none
 | k + 1, x8, x9, x10, x25, x26, x27 => if x27 < x26 then (if 0 ≤ x27 then (if x27 < (x25.length : Int) then (if (rd x25 x27) > x10 then (spec_LongestTalk.l0 k x8 x27 (rd x25 x27) x25 x26 (wrap64 (x27 + 1))) else (spec_LongestTalk.l0 k x8 x9 x10 x25 x26 (wrap64 (x27 + 1)))) else (none)) else (none)) else (if x10 = 0 then (some (0, 0, 0, false)) else (if 0 ≤ x9 then (if x9 < (x8.length : Int) then (if 0 < ((rd_L1 x8 x9).length : Int) then (if 1 < ((rd_L1 x8 x9).length : Int) then (some (rd (rd_L1 x8 x9) 0, rd (rd_L1 x8 x9) 1, x10, true)) else (none)) else (none)) else (none)) else (none)))
end
def spec_LongestTalk.f (k : Nat) (a0 : Int) (a1 : ByteArray) : Option (Int × Int × Int × Bool) := (spec_taLimit.f a0).bind fun t231 => (if t231 = true then ((spec_taWho.f a1).bind fun t232 => (spec_LongestTalk.j0 k a0 a1 (!t232))) else (spec_LongestTalk.j0 k a0 a1 true))
set_option maxHeartbeats 8000000 in
set_option maxRecDepth 100000 in
theorem spec_LongestTalk.calls (k : Nat) (a0 : Int) (a1 : ByteArray) (r1 : Int) (r2 : Int) (r3 : Int) (r4 : Bool) (w : World) (h : spec_LongestTalk.f k a0 a1 = some (r1, r2, r3, r4)) :
  Calls Try.prog 42 #[.int .i64 a0, .string a1] w fun e w' => e = .returned (.tuple #[.int .i64 r1, .int .i64 r2, .int .i64 r3, .bool r4]) ∧ Below w.heap.size w w' := by
 have HB := Aside0.mk (Below.refl w.heap.size w)
 have H : ((spec_taLimit.f a0).bind fun t231 => (if t231 = true then ((spec_taWho.f a1).bind fun t232 => (spec_LongestTalk.j0 k a0 a1 (!t232))) else (spec_LongestTalk.j0 k a0 a1 true))) = some (r1, r2, r3, r4) := h
 clear h
 have HC3 := Aside0.mk H
 clear H
 go_enter Try.func42, Try.ntmps42
 go_upto_region 1 with (fail)
 repeat (go_quiet (fail); go_upto_region 1 with (fail))
 go_cut [20] (fun v20 wc => ∃ (kq : Nat) (x20_2 : Bool), v20 = .bool x20_2 ∧ Aside0 (spec_LongestTalk.j0 kq a0 a1 x20_2 = some (r1, r2, r3, r4)) ∧ Aside0 (kq ≤ k) ∧ Aside0 (Below w.heap.size w wc))
 case first =>
  have H := HC3.out
  clear HC3
  replace H := Option.bind_eq_some_iff.mp H
  obtain ⟨t231, A40, H⟩ := H
  replace H : (if t231 = true then ((spec_taWho.f a1).bind fun t232 => (spec_LongestTalk.j0 k a0 a1 (!t232))) else (spec_LongestTalk.j0 k a0 a1 true)) = some (r1, r2, r3, r4) := H
  have A4 := Aside0.mk A40
  clear A40
  by_cases c5 : t231 = true
  ·subst c5
   have H1 : ((spec_taWho.f a1).bind fun t232 => (spec_LongestTalk.j0 k a0 a1 (!t232))) = some (r1, r2, r3, r4) := by rw [if_pos rfl] at H; exact H
   clear H
   have H := H1
   clear H1
   replace H := Option.bind_eq_some_iff.mp H
   obtain ⟨t232, A60, H⟩ := H
   replace H : (spec_LongestTalk.j0 k a0 a1 (!t232)) = some (r1, r2, r3, r4) := H
   have A6 := Aside0.mk A60
   clear A60
   have H' := Aside0.mk H
   clear H
   go_wp2_with (first | (go_at_call 93; (with_reducible refine (spec_taLimit.calls a0 true _ A4.out).mono ?_); rintro e w' ⟨rfl, ⟨nd, rfl⟩⟩; (try first | exact ⟨rfl, _, World.drewN_drewN _ _ _⟩ | exact ⟨rfl, _, Eq.trans (World.drewN_drewN _ _ _) (congrArg (World.drewN _) (Nat.add_assoc _ _ _))⟩)) | (go_at_call 90; (with_reducible refine (spec_taWho.calls a1 t232 _ A6.out).mono ?_); rintro e w' ⟨rfl, ⟨nd, rfl⟩⟩; (try first | exact ⟨rfl, _, World.drewN_drewN _ _ _⟩ | exact ⟨rfl, _, Eq.trans (World.drewN_drewN _ _ _) (congrArg (World.drewN _) (Nat.add_assoc _ _ _))⟩)))
   repeat (go_quiet (first | (go_at_call 93; (with_reducible refine (spec_taLimit.calls a0 true _ A4.out).mono ?_); rintro e w' ⟨rfl, ⟨nd, rfl⟩⟩; (try first | exact ⟨rfl, _, World.drewN_drewN _ _ _⟩ | exact ⟨rfl, _, Eq.trans (World.drewN_drewN _ _ _) (congrArg (World.drewN _) (Nat.add_assoc _ _ _))⟩)) | (go_at_call 90; (with_reducible refine (spec_taWho.calls a1 t232 _ A6.out).mono ?_); rintro e w' ⟨rfl, ⟨nd, rfl⟩⟩; (try first | exact ⟨rfl, _, World.drewN_drewN _ _ _⟩ | exact ⟨rfl, _, Eq.trans (World.drewN_drewN _ _ _) (congrArg (World.drewN _) (Nat.add_assoc _ _ _))⟩))); try go_wp2_with (first | (go_at_call 93; (with_reducible refine (spec_taLimit.calls a0 true _ A4.out).mono ?_); rintro e w' ⟨rfl, ⟨nd, rfl⟩⟩; (try first | exact ⟨rfl, _, World.drewN_drewN _ _ _⟩ | exact ⟨rfl, _, Eq.trans (World.drewN_drewN _ _ _) (congrArg (World.drewN _) (Nat.add_assoc _ _ _))⟩)) | (go_at_call 90; (with_reducible refine (spec_taWho.calls a1 t232 _ A6.out).mono ?_); rintro e w' ⟨rfl, ⟨nd, rfl⟩⟩; (try first | exact ⟨rfl, _, World.drewN_drewN _ _ _⟩ | exact ⟨rfl, _, Eq.trans (World.drewN_drewN _ _ _) (congrArg (World.drewN _) (Nat.add_assoc _ _ _))⟩))))
   go_meet
   case rel => exact ⟨_, (!t232), (by first | rfl | (simp; done) | (simp [*]; done)), H', ⟨by first | omega | exact Nat.le_refl _⟩, ⟨by repeat (first | (with_reducible first | exact HB.out | apply below_alloc | apply pw_below_drewN | apply below_drew1) | exact HB.out)⟩⟩
  ·replace c5 := Bool.eq_false_iff.mpr c5
   subst c5
   have H1 : (spec_LongestTalk.j0 k a0 a1 true) = some (r1, r2, r3, r4) := by rw [if_neg (show ¬ (false = true) by decide)] at H; exact H
   clear H
   have H := H1
   clear H1
   have H' := Aside0.mk H
   clear H
   go_wp2_with (first | (go_at_call 93; (with_reducible refine (spec_taLimit.calls a0 false _ A4.out).mono ?_); rintro e w' ⟨rfl, ⟨nd, rfl⟩⟩; (try first | exact ⟨rfl, _, World.drewN_drewN _ _ _⟩ | exact ⟨rfl, _, Eq.trans (World.drewN_drewN _ _ _) (congrArg (World.drewN _) (Nat.add_assoc _ _ _))⟩)))
   repeat (go_quiet (first | (go_at_call 93; (with_reducible refine (spec_taLimit.calls a0 false _ A4.out).mono ?_); rintro e w' ⟨rfl, ⟨nd, rfl⟩⟩; (try first | exact ⟨rfl, _, World.drewN_drewN _ _ _⟩ | exact ⟨rfl, _, Eq.trans (World.drewN_drewN _ _ _) (congrArg (World.drewN _) (Nat.add_assoc _ _ _))⟩))); try go_wp2_with (first | (go_at_call 93; (with_reducible refine (spec_taLimit.calls a0 false _ A4.out).mono ?_); rintro e w' ⟨rfl, ⟨nd, rfl⟩⟩; (try first | exact ⟨rfl, _, World.drewN_drewN _ _ _⟩ | exact ⟨rfl, _, Eq.trans (World.drewN_drewN _ _ _) (congrArg (World.drewN _) (Nat.add_assoc _ _ _))⟩))))
   go_meet
   case rel => exact ⟨_, (true), (by first | rfl | (simp; done) | (simp [*]; done)), H', ⟨by first | omega | exact Nat.le_refl _⟩, ⟨by repeat (first | (with_reducible first | exact HB.out | apply below_alloc | apply pw_below_drewN | apply below_drew1) | exact HB.out)⟩⟩
 case rest =>
  clear HC3
  try clear p2
  try clear c4
  try clear c5
  obtain ⟨kq, x20_2, rfl, HA, HJ2, HB⟩ := hcut
  cases kq with
  | zero => exact absurd HA.out (by simp [spec_LongestTalk.j0])
  | succ kj2 =>
   have H := HA.out
   clear HA
   simp only [spec_LongestTalk.j0] at H
   by_cases c7 : x20_2 = true
   ·subst c7
    have H1 : (some (0, 0, 0, false)) = some (r1, r2, r3, r4) := by rw [if_pos rfl] at H; exact H
    clear H
    have H := H1
    clear H1
    simp only [Option.some.injEq, Prod.mk.injEq] at H
    obtain ⟨rfl, rfl, rfl, rfl⟩ := H
    go_wp2
    repeat (go_quiet (fail); try go_wp2)
    refine bodyPost_ret (results_list (rs := [.tmp 4, .tmp 5, .tmp 6, .tmp 7]) rfl (by simp) (.tmp (.tmp (.tmp (.tmp .nil))))) rfl ?_
    exact ⟨by first | rfl | (simp [errW_none, errW_some] <;> rfl) | (simp [*, errW_none, errW_some] <;> rfl), by repeat (first | (with_reducible first | exact HB.out | apply below_alloc | apply pw_below_drewN | apply below_drew1) | exact HB.out)⟩
   ·replace c7 := Bool.eq_false_iff.mpr c7
    subst c7
    have H1 : ((spec_taPairs.f a0).bind fun t233 => ((spec_taTimes.f a0 a1).bind fun t236 => (spec_LongestTalk.l0 kj2 t233 0 0 t236 (t236.length : Int) 0))) = some (r1, r2, r3, r4) := by rw [if_neg (show ¬ (false = true) by decide)] at H; exact H
    clear H
    have H := H1
    clear H1
    replace H := Option.bind_eq_some_iff.mp H
    obtain ⟨t233, A80, H⟩ := H
    replace H : ((spec_taTimes.f a0 a1).bind fun t236 => (spec_LongestTalk.l0 kj2 t233 0 0 t236 (t236.length : Int) 0)) = some (r1, r2, r3, r4) := H
    have A8 := Aside0.mk A80
    clear A80
    replace H := Option.bind_eq_some_iff.mp H
    obtain ⟨t236, A90, H⟩ := H
    replace H : (spec_LongestTalk.l0 kj2 t233 0 0 t236 (t236.length : Int) 0) = some (r1, r2, r3, r4) := H
    have A9 := Aside0.mk A90
    clear A90
    have H' := Aside0.mk H
    clear H
    go_wp2_with (first | (go_at_call 94; (with_reducible refine (spec_taPairs.calls a0 t233 _ A8.out).mono ?_); rintro e w10 ⟨v234, rfl, ho0, hb⟩; have n0_ := Aside0.mk (Kd.S_lower ho0 (below_size (by repeat (first | (with_reducible first | exact HB.out | apply below_alloc | apply pw_below_drewN | apply below_drew1) | exact HB.out)))); have n1_ := Aside0.mk (below_step (by repeat (first | (with_reducible first | exact HB.out | apply below_alloc | apply pw_below_drewN | apply below_drew1) | exact HB.out)) hb); clear HB; have HO235 := n0_; have HB := n1_; clear n0_ n1_; (try clear hb); (try clear hb2); (try clear hk); (try clear hi); (try clear ho0)) | (go_at_call 95; (with_reducible refine (spec_taTimes.calls a0 a1 t236 _ A9.out).mono ?_); rintro e w11 ⟨v237, rfl, ho0, hb⟩; have n0_ := Aside0.mk (Kd.S_elder' (by (with_reducible repeat (first | apply Kd.S_alloc | apply Kd.S_drewN | apply Kd.S_drew)); exact HO235.out) (Kd.R_base ho0) hb); have n1_ := Aside0.mk (Kd.R_lower ho0 (below_size (by repeat (first | (with_reducible first | exact HB.out | apply below_alloc | apply pw_below_drewN | apply below_drew1) | exact HB.out)))); have n2_ := Aside0.mk (below_step (by repeat (first | (with_reducible first | exact HB.out | apply below_alloc | apply pw_below_drewN | apply below_drew1) | exact HB.out)) hb); clear HO235; clear HB; have HO235 := n0_; have HO238 := n1_; have HB := n2_; clear n0_ n1_ n2_; (try clear hb); (try clear hb2); (try clear hk); (try clear hi); (try clear ho0); obtain ⟨Ao12, co12, eo12⟩ := Kd.R_slice HO238.out; subst eo12))
    repeat (go_quiet (first | (go_at_call 94; (with_reducible refine (spec_taPairs.calls a0 t233 _ A8.out).mono ?_); rintro e w10 ⟨v234, rfl, ho0, hb⟩; have n0_ := Aside0.mk (Kd.S_lower ho0 (below_size (by repeat (first | (with_reducible first | exact HB.out | apply below_alloc | apply pw_below_drewN | apply below_drew1) | exact HB.out)))); have n1_ := Aside0.mk (below_step (by repeat (first | (with_reducible first | exact HB.out | apply below_alloc | apply pw_below_drewN | apply below_drew1) | exact HB.out)) hb); clear HB; have HO235 := n0_; have HB := n1_; clear n0_ n1_; (try clear hb); (try clear hb2); (try clear hk); (try clear hi); (try clear ho0)) | (go_at_call 95; (with_reducible refine (spec_taTimes.calls a0 a1 t236 _ A9.out).mono ?_); rintro e w11 ⟨v237, rfl, ho0, hb⟩; have n0_ := Aside0.mk (Kd.S_elder' (by (with_reducible repeat (first | apply Kd.S_alloc | apply Kd.S_drewN | apply Kd.S_drew)); exact HO235.out) (Kd.R_base ho0) hb); have n1_ := Aside0.mk (Kd.R_lower ho0 (below_size (by repeat (first | (with_reducible first | exact HB.out | apply below_alloc | apply pw_below_drewN | apply below_drew1) | exact HB.out)))); have n2_ := Aside0.mk (below_step (by repeat (first | (with_reducible first | exact HB.out | apply below_alloc | apply pw_below_drewN | apply below_drew1) | exact HB.out)) hb); clear HO235; clear HB; have HO235 := n0_; have HO238 := n1_; have HB := n2_; clear n0_ n1_ n2_; (try clear hb); (try clear hb2); (try clear hk); (try clear hi); (try clear ho0); obtain ⟨Ao12, co12, eo12⟩ := Kd.R_slice HO238.out; subst eo12)); try go_wp2_with (first | (go_at_call 94; (with_reducible refine (spec_taPairs.calls a0 t233 _ A8.out).mono ?_); rintro e w10 ⟨v234, rfl, ho0, hb⟩; have n0_ := Aside0.mk (Kd.S_lower ho0 (below_size (by repeat (first | (with_reducible first | exact HB.out | apply below_alloc | apply pw_below_drewN | apply below_drew1) | exact HB.out)))); have n1_ := Aside0.mk (below_step (by repeat (first | (with_reducible first | exact HB.out | apply below_alloc | apply pw_below_drewN | apply below_drew1) | exact HB.out)) hb); clear HB; have HO235 := n0_; have HB := n1_; clear n0_ n1_; (try clear hb); (try clear hb2); (try clear hk); (try clear hi); (try clear ho0)) | (go_at_call 95; (with_reducible refine (spec_taTimes.calls a0 a1 t236 _ A9.out).mono ?_); rintro e w11 ⟨v237, rfl, ho0, hb⟩; have n0_ := Aside0.mk (Kd.S_elder' (by (with_reducible repeat (first | apply Kd.S_alloc | apply Kd.S_drewN | apply Kd.S_drew)); exact HO235.out) (Kd.R_base ho0) hb); have n1_ := Aside0.mk (Kd.R_lower ho0 (below_size (by repeat (first | (with_reducible first | exact HB.out | apply below_alloc | apply pw_below_drewN | apply below_drew1) | exact HB.out)))); have n2_ := Aside0.mk (below_step (by repeat (first | (with_reducible first | exact HB.out | apply below_alloc | apply pw_below_drewN | apply below_drew1) | exact HB.out)) hb); clear HO235; clear HB; have HO235 := n0_; have HO238 := n1_; have HB := n2_; clear n0_ n1_ n2_; (try clear hb); (try clear hb2); (try clear hk); (try clear hi); (try clear ho0); obtain ⟨Ao12, co12, eo12⟩ := Kd.R_slice HO238.out; subst eo12)))
    go_loopg [9, 10, 27] kj2 (fun kq v9 v10 v27 w' => ∃ (x9_2 : Int) (x10_2 : Int) (x27_2 : Int), v9 = .int .i64 x9_2 ∧ v10 = .int .i64 x10_2 ∧ v27 = .int .i64 x27_2 ∧ Aside0 (spec_LongestTalk.l0 kq t233 x9_2 x10_2 t236 (t236.length : Int) x27_2 = some (r1, r2, r3, r4)) ∧ Aside0 (kq ≤ kj2) ∧ Aside0 (Kd.S (Kd.slice 3 (Kd.int .i64)) 36 w' w.heap.size (fun k_ => some k_ ≠ ((.slice Ao12 t236.length co12) : Value).ownBlock) v234 t233) ∧ Aside0 (Kd.R (Kd.int .i64) 3 w' w.heap.size (fun _ => True) (.slice Ao12 t236.length co12) t236) ∧ Aside0 (Below w.heap.size w w'))
    case atStart => exact ⟨(0), (0), (0), (by first | rfl | (simp; done) | (simp [*]; done)), (by first | rfl | (simp; done) | (simp [*]; done)), (by first | rfl | (simp; done) | (simp [*]; done)), H', ⟨Nat.le_refl _⟩, ⟨by (with_reducible repeat (first | apply Kd.S_alloc | apply Kd.S_drewN | apply Kd.S_drew)); exact Kd.S_mono HO235.out (fun _ hk => hk.2)⟩, ⟨by (with_reducible repeat (first | apply Kd.R_alloc | apply Kd.R_drewN | apply Kd.R_drew)); exact HO238.out⟩, ⟨by repeat (first | (with_reducible first | exact HB.out | apply below_alloc | apply pw_below_drewN | apply below_drew1) | exact HB.out)⟩⟩
    case round =>
     clear H'
     try clear p2
     try clear c4
     try clear c5
     try clear c7
     try clear p2
     obtain ⟨x9_2, x10_2, x27_2, rfl, rfl, rfl, HA, HK2, HO_8, HO_25, HB⟩ := hrel
     cases gk with
     | zero => exact absurd HA.out (by simp [spec_LongestTalk.l0])
     | succ k2 =>
      have H := HA.out
      clear HA
      simp only [spec_LongestTalk.l0] at H
      by_cases c13 : x27_2 < (t236.length : Int)
      ·rw [if_pos c13] at H
       have c13b0 : decide (x27_2 < (t236.length : Int)) = true := decide_eq_true c13
       clear c13
       by_cases c14 : 0 ≤ x27_2
       ·rw [if_pos c14] at H
        have c14b0 : decide (0 ≤ x27_2) = true := decide_eq_true c14
        clear c14
        by_cases c15 : x27_2 < (t236.length : Int)
        ·rw [if_pos c15] at H
         have c15b0 : decide (x27_2 < (t236.length : Int)) = true := decide_eq_true c15
         clear c15
         by_cases c16 : (rd t236 x27_2) > x10_2
         ·rw [if_pos c16] at H
          have c16b0 : decide (x10_2 < (rd t236 x27_2)) = true := decide_eq_true c16
          clear c16
          have H' := Aside0.mk H
          clear H
          have p239 : 0 ≤ (x27_2 : Int) := of_decide_eq_true (by first | (with_reducible assumption) | assumption)
          have q239 : x27_2 < (t236.length : Int) := of_decide_eq_true (by first | (with_reducible assumption) | assumption)
          obtain ⟨ad239, e239, hx239_0⟩ := Kd.at_int (Kd.R_reads' HO_25.out).2.2 x27_2 p239 q239
          cases e239
          replace p239 := eq_true p239
          replace q239 := eq_true q239
          go_wp2
          repeat (go_quiet (fail); try go_wp2)
          go_roundg k2
          case measure => have := HJ2.out; have := HK2.out; omega
          case rel => exact ⟨(x27_2), (rd t236 x27_2), (wrap64 (x27_2 + 1)), (by first | rfl | (simp; done) | (simp [*]; done)), (by first | rfl | (simp; done) | (simp [*]; done)), (by first | rfl | (simp; done) | (simp [*]; done)), H', ⟨by have := HJ2.out; have := HK2.out; omega⟩, ⟨by (with_reducible repeat (first | apply Kd.S_alloc | apply Kd.S_drewN | apply Kd.S_drew)); exact HO_8.out⟩, ⟨by (with_reducible repeat (first | apply Kd.R_alloc | apply Kd.R_drewN | apply Kd.R_drew)); exact HO_25.out⟩, ⟨by repeat (first | (with_reducible first | exact HB.out | apply below_alloc | apply pw_below_drewN | apply below_drew1) | exact HB.out)⟩⟩
         ·rw [if_neg c16] at H
          have c16b0 : decide (x10_2 < (rd t236 x27_2)) = false := decide_eq_false c16
          clear c16
          have H' := Aside0.mk H
          clear H
          have p239 : 0 ≤ (x27_2 : Int) := of_decide_eq_true (by first | (with_reducible assumption) | assumption)
          have q239 : x27_2 < (t236.length : Int) := of_decide_eq_true (by first | (with_reducible assumption) | assumption)
          obtain ⟨ad239, e239, hx239_0⟩ := Kd.at_int (Kd.R_reads' HO_25.out).2.2 x27_2 p239 q239
          cases e239
          replace p239 := eq_true p239
          replace q239 := eq_true q239
          go_wp2
          repeat (go_quiet (fail); try go_wp2)
          go_roundg k2
          case measure => have := HJ2.out; have := HK2.out; omega
          case rel => exact ⟨(x9_2), (x10_2), (wrap64 (x27_2 + 1)), (by first | rfl | (simp; done) | (simp [*]; done)), (by first | rfl | (simp; done) | (simp [*]; done)), (by first | rfl | (simp; done) | (simp [*]; done)), H', ⟨by have := HJ2.out; have := HK2.out; omega⟩, ⟨by (with_reducible repeat (first | apply Kd.S_alloc | apply Kd.S_drewN | apply Kd.S_drew)); exact HO_8.out⟩, ⟨by (with_reducible repeat (first | apply Kd.R_alloc | apply Kd.R_drewN | apply Kd.R_drew)); exact HO_25.out⟩, ⟨by repeat (first | (with_reducible first | exact HB.out | apply below_alloc | apply pw_below_drewN | apply below_drew1) | exact HB.out)⟩⟩
        ·rw [if_neg c15] at H
         exact absurd H (by simp)
       ·rw [if_neg c14] at H
        exact absurd H (by simp)
      ·rw [if_neg c13] at H
       have c13b0 : decide (x27_2 < (t236.length : Int)) = false := decide_eq_false c13
       clear c13
       by_cases c17 : x10_2 = 0
       ·rw [if_pos c17] at H
        have c17b0 : (x10_2 == 0) = true := beq_iff_eq.mpr c17
        have c17b1 : (x10_2 != 0) = false := bne_eq_false_iff_eq.mpr c17
        clear c17
        simp only [Option.some.injEq, Prod.mk.injEq] at H
        obtain ⟨rfl, rfl, rfl, rfl⟩ := H
        go_wp2
        repeat (go_quiet (fail); try go_wp2)
        refine bodyPost_ret (results_list (rs := [.tmp 4, .tmp 5, .tmp 6, .tmp 7]) rfl (by simp) (.tmp (.tmp (.tmp (.tmp .nil))))) rfl ?_
        exact ⟨by first | rfl | (simp [errW_none, errW_some] <;> rfl) | (simp [*, errW_none, errW_some] <;> rfl), by repeat (first | (with_reducible first | exact HB.out | apply below_alloc | apply pw_below_drewN | apply below_drew1) | exact HB.out)⟩
       ·rw [if_neg c17] at H
        have c17b0 : (x10_2 == 0) = false := beq_eq_false_iff_ne.mpr c17
        have c17b1 : (x10_2 != 0) = true := bne_iff_ne.mpr c17
        by_cases c18 : 0 ≤ x9_2
        ·rw [if_pos c18] at H
         have c18b0 : decide (0 ≤ x9_2) = true := decide_eq_true c18
         clear c18
         by_cases c19 : x9_2 < (t233.length : Int)
         ·rw [if_pos c19] at H
          have c19b0 : decide (x9_2 < (t233.length : Int)) = true := decide_eq_true c19
          clear c19
          by_cases c20 : 0 < ((rd_L1 t233 x9_2).length : Int)
          ·rw [if_pos c20] at H
           have c20b0 : decide (0 < ((rd_L1 t233 x9_2).length : Int)) = true := decide_eq_true c20
           have c20b1 : decide (0 < (rd_L1 t233 x9_2).length) = true := decide_eq_true (by omega)
           clear c20
           by_cases c21 : 1 < ((rd_L1 t233 x9_2).length : Int)
           ·rw [if_pos c21] at H
            have c21b0 : decide (1 < ((rd_L1 t233 x9_2).length : Int)) = true := decide_eq_true c21
            have c21b1 : decide (1 < (rd_L1 t233 x9_2).length) = true := decide_eq_true (by omega)
            clear c21
            simp only [Option.some.injEq, Prod.mk.injEq] at H
            obtain ⟨rfl, rfl, rfl, rfl⟩ := H
            obtain ⟨Ao22, co22, eo22⟩ := Kd.S_slice HO_8.out
            subst eo22
            have p240 : 0 ≤ (x9_2 : Int) := of_decide_eq_true (by first | (with_reducible assumption) | assumption)
            have q240 : x9_2 < (t233.length : Int) := of_decide_eq_true (by first | (with_reducible assumption) | assumption)
            obtain ⟨ad240, A240_0, c240_0, e240, hx240_0, hl240_0, hi240_0⟩ := at_L1 (Kd.S_reads' HO_8.out).2.2 x9_2 p240 q240
            cases e240
            obtain ⟨ce240, hce240, hMe240, hcc240⟩ := Kd.S_get HO_8.out [] x9_2 p240 (by first | exact q240 | exact of_decide_eq_true (by first | (with_reducible assumption) | assumption) | (have e_ := (Kd.S_reads' HO_8.out).1; omega))
            obtain ⟨ve240_0, rfl, ge240_0⟩ := hMe240
            have hv240_0 := hcc240 0 _ rfl
            rw [Nat.add_zero, show ((Kd.slice 3 (Kd.int .i64))).sz = 1 from rfl, Nat.mul_one] at hv240_0
            replace hv240_0 := Option.some.inj (hv240_0.symm.trans hx240_0)
            rw [hv240_0] at ge240_0
            have HL240_0 := Aside0.mk (show Kd.R (Kd.int .i64) 3 _ _ _ _ (rd_L1 t233 x9_2) from ge240_0)
            clear hv240_0 ge240_0
            clear hcc240 hce240
            have HR240_0 := Aside0.mk hi240_0
            have HC240_0 := Aside0.mk hl240_0
            clear hi240_0 hl240_0
            replace p240 := eq_true p240
            replace q240 := eq_true q240
            have p241 : 0 ≤ (0 : Int) := (by omega)
            have q241 : 0 < ((rd_L1 t233 x9_2).length : Int) := of_decide_eq_true (by first | (with_reducible assumption) | assumption)
            obtain ⟨ad241, e241, hx241_0⟩ := Kd.at_int (by repeat (first | (with_reducible exact HR240_0.out) | (with_reducible refine Kd.C_alloc ?_ _) | (with_reducible refine Kd.C_drewN ?_ _) | (with_reducible refine Kd.C_drew ?_) | exact HR240_0.out)) 0 p241 q241
            cases e241
            have qi241 : (0 < (rd_L1 t233 x9_2).length) = True := eq_true (by omega)
            (try rw [show ((0 : Int)).toNat = 0 from rfl] at hx241_0)
            (try rw [Addr.add_zero'] at hx241_0)
            replace p241 := eq_true p241
            replace q241 := eq_true q241
            have p242 : 0 ≤ (x9_2 : Int) := of_decide_eq_true (by first | (with_reducible assumption) | assumption)
            have q242 : x9_2 < (t233.length : Int) := of_decide_eq_true (by first | (with_reducible assumption) | assumption)
            obtain ⟨ad242, A242_0, c242_0, e242, hx242_0, hl242_0, hi242_0⟩ := at_L1 (Kd.S_reads' HO_8.out).2.2 x9_2 p242 q242
            obtain rfl : ad240 = ad242 := (by injection e242)
            obtain ⟨ce242, hce242, hMe242, hcc242⟩ := Kd.S_get HO_8.out [] x9_2 p242 (by first | exact q242 | exact of_decide_eq_true (by first | (with_reducible assumption) | assumption) | (have e_ := (Kd.S_reads' HO_8.out).1; omega))
            obtain ⟨ve242_0, rfl, ge242_0⟩ := hMe242
            have hv242_0 := hcc242 0 _ rfl
            rw [Nat.add_zero, show ((Kd.slice 3 (Kd.int .i64))).sz = 1 from rfl, Nat.mul_one] at hv242_0
            replace hv242_0 := Option.some.inj (hv242_0.symm.trans hx242_0)
            rw [hv242_0] at ge242_0
            have HL242_0 := Aside0.mk (show Kd.R (Kd.int .i64) 3 _ _ _ _ (rd_L1 t233 x9_2) from ge242_0)
            clear hv242_0 ge242_0
            clear hcc242 hce242
            have HR242_0 := Aside0.mk hi242_0
            have HC242_0 := Aside0.mk hl242_0
            clear hi242_0 hl242_0
            replace p242 := eq_true p242
            replace q242 := eq_true q242
            have ea_ := Option.some.inj (hx240_0.symm.trans hx242_0)
            injection ea_ with ea_ en_ ec_
            subst ea_
            subst ec_
            clear en_
            have p243 : 0 ≤ (1 : Int) := (by omega)
            have q243 : 1 < ((rd_L1 t233 x9_2).length : Int) := of_decide_eq_true (by first | (with_reducible assumption) | assumption)
            obtain ⟨ad243, e243, hx243_0⟩ := Kd.at_int (by repeat (first | (with_reducible exact HR242_0.out) | (with_reducible refine Kd.C_alloc ?_ _) | (with_reducible refine Kd.C_drewN ?_ _) | (with_reducible refine Kd.C_drew ?_) | exact HR242_0.out)) 1 p243 q243
            cases e243
            (try simp only [show (1 : Int).toNat = 1 from rfl, Nat.reduceMul, Nat.reduceEqDiff, Go.Addr.add, ↓reduceIte] at hx243_0)
            have qi243 : (1 < (rd_L1 t233 x9_2).length) = True := eq_true (by omega)
            (try rw [show ((1 : Int)).toNat = 1 from rfl] at hx243_0)
            replace p243 := eq_true p243
            replace q243 := eq_true q243
            go_wp2
            repeat (go_quiet (fail); try go_wp2)
            refine bodyPost_ret (results_list (rs := [.tmp 4, .tmp 5, .tmp 6, .tmp 7]) rfl (by simp) (.tmp (.tmp (.tmp (.tmp .nil))))) rfl ?_
            exact ⟨by first | rfl | (simp [errW_none, errW_some] <;> rfl) | (simp [*, errW_none, errW_some] <;> rfl), by repeat (first | (with_reducible first | exact HB.out | apply below_alloc | apply pw_below_drewN | apply below_drew1) | exact HB.out)⟩
           ·rw [if_neg c21] at H
            exact absurd H (by simp)
          ·rw [if_neg c20] at H
           exact absurd H (by simp)
         ·rw [if_neg c19] at H
          exact absurd H (by simp)
        ·rw [if_neg c18] at H
         exact absurd H (by simp)

end Go.Proofs.Ytlkbphhmahipdaa.P
namespace Go.Proofs.Ytlkbphhmahipdaa.P
open Go.RowKit Go.Proofs.YtlkbphhmahipdaaW.PrintWords Go.Proofs.YtlkbphhmahipdaaW.PrintLast Go.Proofs.YtlkbphhmahipdaaW.PrintMore
attribute [local go_sem] max2_int min2_int max_two min_two max_three min_three max_four min_four   -- for this text's walks alone
set_option linter.unusedVariables false
set_option linter.unusedSimpArgs false

/-! ### spec_CountNeverKnown: function 44 -/
mutual
def spec_CountNeverKnown.j0 : Nat → Int → ByteArray → Bool → Option (Int × Bool)
 | 0, _, _, _ => none
 | k + 1, x0, x1, x16 => if x16 = true then (some (0, false)) else ((spec_taTimes.f x0 x1).bind fun t246 => (spec_CountNeverKnown.l0 k 0 t246 (t246.length : Int) 0))
def spec_CountNeverKnown.l0 : Nat → Int → List Int → Int → Int → Option (Int × Bool)
 | 0, _, _, _, _ => none
 | k + 1, x6, x19, x20, x21 => if x21 < x20 then (if 0 ≤ x21 then (if x21 < (x19.length : Int) then (if (rd x19 x21) = 0 then (spec_CountNeverKnown.l0 k (wrap64 (x6 + 1)) x19 x20 (wrap64 (x21 + 1))) else (spec_CountNeverKnown.l0 k x6 x19 x20 (wrap64 (x21 + 1)))) else (none)) else (none)) else (some (x6, true))
end
def spec_CountNeverKnown.f (k : Nat) (a0 : Int) (a1 : ByteArray) : Option (Int × Bool) := (spec_taLimit.f a0).bind fun t244 => (if t244 = true then ((spec_taWho.f a1).bind fun t245 => (spec_CountNeverKnown.j0 k a0 a1 (!t245))) else (spec_CountNeverKnown.j0 k a0 a1 true))
set_option maxHeartbeats 8000000 in
set_option maxRecDepth 100000 in
theorem spec_CountNeverKnown.calls (k : Nat) (a0 : Int) (a1 : ByteArray) (r1 : Int) (r2 : Bool) (w : World) (h : spec_CountNeverKnown.f k a0 a1 = some (r1, r2)) :
  Calls Try.prog 44 #[.int .i64 a0, .string a1] w fun e w' => e = .returned (.tuple #[.int .i64 r1, .bool r2]) ∧ Below w.heap.size w w' := by
 have HB := Aside0.mk (Below.refl w.heap.size w)
 have H : ((spec_taLimit.f a0).bind fun t244 => (if t244 = true then ((spec_taWho.f a1).bind fun t245 => (spec_CountNeverKnown.j0 k a0 a1 (!t245))) else (spec_CountNeverKnown.j0 k a0 a1 true))) = some (r1, r2) := h
 clear h
 have HC3 := Aside0.mk H
 clear H
 go_enter Try.func44, Try.ntmps44
 go_upto_region 1 with (fail)
 go_cut [16] (fun v16 wc => ∃ (kq : Nat) (x16_2 : Bool), v16 = .bool x16_2 ∧ Aside0 (spec_CountNeverKnown.j0 kq a0 a1 x16_2 = some (r1, r2)) ∧ Aside0 (kq ≤ k) ∧ Aside0 (Below w.heap.size w wc))
 case first =>
  have H := HC3.out
  clear HC3
  replace H := Option.bind_eq_some_iff.mp H
  obtain ⟨t244, A40, H⟩ := H
  replace H : (if t244 = true then ((spec_taWho.f a1).bind fun t245 => (spec_CountNeverKnown.j0 k a0 a1 (!t245))) else (spec_CountNeverKnown.j0 k a0 a1 true)) = some (r1, r2) := H
  have A4 := Aside0.mk A40
  clear A40
  by_cases c5 : t244 = true
  ·subst c5
   have H1 : ((spec_taWho.f a1).bind fun t245 => (spec_CountNeverKnown.j0 k a0 a1 (!t245))) = some (r1, r2) := by rw [if_pos rfl] at H; exact H
   clear H
   have H := H1
   clear H1
   replace H := Option.bind_eq_some_iff.mp H
   obtain ⟨t245, A60, H⟩ := H
   replace H : (spec_CountNeverKnown.j0 k a0 a1 (!t245)) = some (r1, r2) := H
   have A6 := Aside0.mk A60
   clear A60
   have H' := Aside0.mk H
   clear H
   go_wp2_with (first | ((with_reducible refine gate_callee (f := 93) rfl ?_); refine goesL_ (some 10) rfl rfl Try.func93 (by kernel_rfl) rfl #[.int .i64 a0] rfl (by (try simp only [List.map_toArray, List.map_cons, List.map_nil]); first | done | rfl | (simp only [List.length_drop, List.length_take]; rfl)) ?_; (with_reducible refine (spec_taLimit.calls a0 true _ A4.out).mono ?_); rintro e w' ⟨rfl, ⟨nd, rfl⟩⟩; refine ⟨_, rfl, ?_⟩) | (go_at_call 90; (with_reducible refine (spec_taWho.calls a1 t245 _ A6.out).mono ?_); rintro e w' ⟨rfl, ⟨nd, rfl⟩⟩))
   go_meet
   case rel => exact ⟨_, (!t245), (by first | rfl | (simp; done) | (simp [*]; done)), H', ⟨by first | omega | exact Nat.le_refl _⟩, ⟨by repeat (first | (with_reducible first | exact HB.out | apply below_alloc | apply pw_below_drewN | apply below_drew1) | exact HB.out)⟩⟩
  ·replace c5 := Bool.eq_false_iff.mpr c5
   subst c5
   have H1 : (spec_CountNeverKnown.j0 k a0 a1 true) = some (r1, r2) := by rw [if_neg (show ¬ (false = true) by decide)] at H; exact H
   clear H
   have H := H1
   clear H1
   have H' := Aside0.mk H
   clear H
   go_wp2_with (first | ((with_reducible refine gate_callee (f := 93) rfl ?_); refine goesL_ (some 10) rfl rfl Try.func93 (by kernel_rfl) rfl #[.int .i64 a0] rfl (by (try simp only [List.map_toArray, List.map_cons, List.map_nil]); first | done | rfl | (simp only [List.length_drop, List.length_take]; rfl)) ?_; (with_reducible refine (spec_taLimit.calls a0 false _ A4.out).mono ?_); rintro e w' ⟨rfl, ⟨nd, rfl⟩⟩; refine ⟨_, rfl, ?_⟩))
   go_meet
   case rel => exact ⟨_, (true), (by first | rfl | (simp; done) | (simp [*]; done)), H', ⟨by first | omega | exact Nat.le_refl _⟩, ⟨by repeat (first | (with_reducible first | exact HB.out | apply below_alloc | apply pw_below_drewN | apply below_drew1) | exact HB.out)⟩⟩
 case rest =>
  clear HC3
  try clear p2
  try clear c4
  try clear c5
  obtain ⟨kq, x16_2, rfl, HA, HJ2, HB⟩ := hcut
  cases kq with
  | zero => exact absurd HA.out (by simp [spec_CountNeverKnown.j0])
  | succ kj2 =>
   have H := HA.out
   clear HA
   simp only [spec_CountNeverKnown.j0] at H
   by_cases c7 : x16_2 = true
   ·subst c7
    have H1 : (some (0, false)) = some (r1, r2) := by rw [if_pos rfl] at H; exact H
    clear H
    have H := H1
    clear H1
    simp only [Option.some.injEq, Prod.mk.injEq] at H
    obtain ⟨rfl, rfl⟩ := H
    go_wp2
    go_ret2
    exact ⟨by first | rfl | (simp [errW_none, errW_some] <;> rfl) | (simp [*, errW_none, errW_some] <;> rfl), by repeat (first | (with_reducible first | exact HB.out | apply below_alloc | apply pw_below_drewN | apply below_drew1) | exact HB.out)⟩
   ·replace c7 := Bool.eq_false_iff.mpr c7
    subst c7
    have H1 : ((spec_taTimes.f a0 a1).bind fun t246 => (spec_CountNeverKnown.l0 kj2 0 t246 (t246.length : Int) 0)) = some (r1, r2) := by rw [if_neg (show ¬ (false = true) by decide)] at H; exact H
    clear H
    have H := H1
    clear H1
    replace H := Option.bind_eq_some_iff.mp H
    obtain ⟨t246, A80, H⟩ := H
    replace H : (spec_CountNeverKnown.l0 kj2 0 t246 (t246.length : Int) 0) = some (r1, r2) := H
    have A8 := Aside0.mk A80
    clear A80
    have H' := Aside0.mk H
    clear H
    go_wp2_with (first | ((with_reducible refine gate_callee (f := 95) rfl ?_); refine goesL_ (some 19) rfl rfl Try.func95 (by kernel_rfl) rfl #[.int .i64 a0, .string a1] rfl (by (try simp only [List.map_toArray, List.map_cons, List.map_nil]); first | done | rfl | (simp only [List.length_drop, List.length_take]; rfl)) ?_; (with_reducible refine (spec_taTimes.calls a0 a1 t246 _ A8.out).mono ?_); rintro e w9 ⟨v247, rfl, ho0, hb⟩; refine ⟨_, rfl, ?_⟩; have n0_ := Aside0.mk (Kd.R_lower ho0 (below_size (by repeat (first | (with_reducible first | exact HB.out | apply below_alloc | apply pw_below_drewN | apply below_drew1) | exact HB.out)))); have n1_ := Aside0.mk (below_step (by repeat (first | (with_reducible first | exact HB.out | apply below_alloc | apply pw_below_drewN | apply below_drew1) | exact HB.out)) hb); clear HB; have HO248 := n0_; have HB := n1_; clear n0_ n1_; (try clear hb); (try clear hb2); (try clear hk); (try clear hi); (try clear ho0); obtain ⟨Ao10, co10, eo10⟩ := Kd.R_slice HO248.out; subst eo10))
    go_loopg [6, 21] kj2 (fun kq v6 v21 w' => ∃ (x6_2 : Int) (x21_2 : Int), v6 = .int .i64 x6_2 ∧ v21 = .int .i64 x21_2 ∧ Aside0 (spec_CountNeverKnown.l0 kq x6_2 t246 (t246.length : Int) x21_2 = some (r1, r2)) ∧ Aside0 (kq ≤ kj2) ∧ Aside0 (Kd.R (Kd.int .i64) 3 w' w.heap.size (fun _ => True) (.slice Ao10 t246.length co10) t246) ∧ Aside0 (Below w.heap.size w w'))
    case atStart => exact ⟨(0), (0), (by first | rfl | (simp; done) | (simp [*]; done)), (by first | rfl | (simp; done) | (simp [*]; done)), H', ⟨Nat.le_refl _⟩, ⟨by (with_reducible repeat (first | apply Kd.R_alloc | apply Kd.R_drewN | apply Kd.R_drew)); exact HO248.out⟩, ⟨by repeat (first | (with_reducible first | exact HB.out | apply below_alloc | apply pw_below_drewN | apply below_drew1) | exact HB.out)⟩⟩
    case round =>
     clear H'
     try clear p2
     try clear c4
     try clear c5
     try clear c7
     try clear c9
     try clear p2
     obtain ⟨x6_2, x21_2, rfl, rfl, HA, HK2, HO_19, HB⟩ := hrel
     cases gk with
     | zero => exact absurd HA.out (by simp [spec_CountNeverKnown.l0])
     | succ k2 =>
      have H := HA.out
      clear HA
      simp only [spec_CountNeverKnown.l0] at H
      by_cases c11 : x21_2 < (t246.length : Int)
      ·rw [if_pos c11] at H
       have c11b0 : decide (x21_2 < (t246.length : Int)) = true := decide_eq_true c11
       clear c11
       by_cases c12 : 0 ≤ x21_2
       ·rw [if_pos c12] at H
        have c12b0 : decide (0 ≤ x21_2) = true := decide_eq_true c12
        clear c12
        by_cases c13 : x21_2 < (t246.length : Int)
        ·rw [if_pos c13] at H
         have c13b0 : decide (x21_2 < (t246.length : Int)) = true := decide_eq_true c13
         clear c13
         by_cases c14 : (rd t246 x21_2) = 0
         ·rw [if_pos c14] at H
          have c14b0 : ((rd t246 x21_2) == 0) = true := beq_iff_eq.mpr c14
          have c14b1 : ((rd t246 x21_2) != 0) = false := bne_eq_false_iff_eq.mpr c14
          clear c14
          have H' := Aside0.mk H
          clear H
          have p249 : 0 ≤ (x21_2 : Int) := of_decide_eq_true (by first | (with_reducible assumption) | assumption)
          have q249 : x21_2 < (t246.length : Int) := of_decide_eq_true (by first | (with_reducible assumption) | assumption)
          obtain ⟨ad249, e249, hx249_0⟩ := Kd.at_int (Kd.R_reads' HO_19.out).2.2 x21_2 p249 q249
          cases e249
          replace p249 := eq_true p249
          replace q249 := eq_true q249
          go_wp2
          go_roundg k2
          case measure => have := HJ2.out; have := HK2.out; omega
          case rel => exact ⟨(wrap64 (x6_2 + 1)), (wrap64 (x21_2 + 1)), (by first | rfl | (simp; done) | (simp [*]; done)), (by first | rfl | (simp; done) | (simp [*]; done)), H', ⟨by have := HJ2.out; have := HK2.out; omega⟩, ⟨by (with_reducible repeat (first | apply Kd.R_alloc | apply Kd.R_drewN | apply Kd.R_drew)); exact HO_19.out⟩, ⟨by repeat (first | (with_reducible first | exact HB.out | apply below_alloc | apply pw_below_drewN | apply below_drew1) | exact HB.out)⟩⟩
         ·rw [if_neg c14] at H
          have c14b0 : ((rd t246 x21_2) == 0) = false := beq_eq_false_iff_ne.mpr c14
          have c14b1 : ((rd t246 x21_2) != 0) = true := bne_iff_ne.mpr c14
          have H' := Aside0.mk H
          clear H
          have p249 : 0 ≤ (x21_2 : Int) := of_decide_eq_true (by first | (with_reducible assumption) | assumption)
          have q249 : x21_2 < (t246.length : Int) := of_decide_eq_true (by first | (with_reducible assumption) | assumption)
          obtain ⟨ad249, e249, hx249_0⟩ := Kd.at_int (Kd.R_reads' HO_19.out).2.2 x21_2 p249 q249
          cases e249
          replace p249 := eq_true p249
          replace q249 := eq_true q249
          go_wp2
          go_roundg k2
          case measure => have := HJ2.out; have := HK2.out; omega
          case rel => exact ⟨(x6_2), (wrap64 (x21_2 + 1)), (by first | rfl | (simp; done) | (simp [*]; done)), (by first | rfl | (simp; done) | (simp [*]; done)), H', ⟨by have := HJ2.out; have := HK2.out; omega⟩, ⟨by (with_reducible repeat (first | apply Kd.R_alloc | apply Kd.R_drewN | apply Kd.R_drew)); exact HO_19.out⟩, ⟨by repeat (first | (with_reducible first | exact HB.out | apply below_alloc | apply pw_below_drewN | apply below_drew1) | exact HB.out)⟩⟩
        ·rw [if_neg c13] at H
         exact absurd H (by simp)
       ·rw [if_neg c12] at H
        exact absurd H (by simp)
      ·rw [if_neg c11] at H
       have c11b0 : decide (x21_2 < (t246.length : Int)) = false := decide_eq_false c11
       clear c11
       simp only [Option.some.injEq, Prod.mk.injEq] at H
       obtain ⟨rfl, rfl⟩ := H
       go_wp2
       go_ret2
       exact ⟨by first | rfl | (simp [errW_none, errW_some] <;> rfl) | (simp [*, errW_none, errW_some] <;> rfl), by repeat (first | (with_reducible first | exact HB.out | apply below_alloc | apply pw_below_drewN | apply below_drew1) | exact HB.out)⟩

end Go.Proofs.Ytlkbphhmahipdaa.P
