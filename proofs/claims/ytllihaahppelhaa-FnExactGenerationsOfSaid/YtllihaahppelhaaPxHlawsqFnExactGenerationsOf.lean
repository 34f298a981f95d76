/- Calls of the functions of the given program return what the plain Lean functions of the same names return; and a row of a law out of its pure statement. Written by a program of this session out of the translation; Lean checks it. No condition. -/
import Derived.Test.YtllihaahppelhaaPx0
import Derived.Test.YtllihaahppelhaaPx1
import Derived.Test.YtllihaahppelhaaPx2
import Derived.Test.YtllihaahppelhaaPx7
import Derived.Test.YtllihaahppelhaaPx8
import Derived.Test.YtllihaahppelhaaPxHlawsqmarkIntSS
import Derived.Test.YtllihaahppelhaaPx10
import Derived.Test.YtllihaahppelhaaHlp
namespace Go.Proofs.Ytllihaahppelhaa.P
open Go.RowKit Go.Proofs.YtllihaahppelhaaW.PrintWords Go.Proofs.YtllihaahppelhaaW.PrintLast Go.Proofs.YtllihaahppelhaaW.PrintMore
attribute [local go_sem] max2_int min2_int max_two min_two max_three min_three max_four min_four   -- for this text's walks alone
set_option linter.unusedVariables false
set_option linter.unusedSimpArgs false

/-! ### laws_FnExactGenerationsOf: function 3, by hand -/
-- IMPORT Derived.Test.YtllihaahppelhaaHlp
open Classical in
/-- The law in short: what each call tells. -/
noncomputable def laws_FnExactGenerationsOf.f (k : Nat) (l0 : List S51) : Option Bool :=
  (laws_szKinS.f l0 1048576).bind fun t => if t < 0 then some true else (laws_toKinS.f k l0).bind fun x0 => (spec_GenerationsOf.f k x0).bind fun v =>
    if impl_GenerationsOf.f k x0 = some v ∧ laws_eqIntSS.f k v.1 v.1 = some true ∧ laws_eqKinS.f k x0 x0 = some true ∧ (∃ m, laws_markKinS.f k x0 1 = some m ∧ 0 ≤ m.1) ∧ ∃ s, laws_markIntSS.f k v.1 1 = some s ∧ 0 ≤ s.1 ∧ laws_heldIntSS.f k s.2 1 = some s.1 ∧ s.2.length = v.1.length then some true else none
set_option maxHeartbeats 8000000 in
set_option maxRecDepth 100000 in
theorem laws_FnExactGenerationsOf.calls (k : Nat) (A0 : Option Addr) (c0 : Nat) (l0 : List S51) (r : Bool) (w : World) (hr0 : Kd.C k51 w A0 l0.length l0) (hc0 : l0.length ≤ c0) (h : laws_FnExactGenerationsOf.f k l0 = some r) :
    Calls Try.prog 3 #[.slice A0 l0.length c0] w fun e w' => e = .returned (.bool r) ∧ Below w.heap.size w w' := by
  unfold laws_FnExactGenerationsOf.f at h
  obtain ⟨t, ht, h⟩ := Option.bind_eq_some_iff.1 h
  have T10 : Aside0 (Calls Try.prog 10 #[.slice A0 l0.length c0, .int .i64 1048576] w fun e w' => e = .returned (.int .i64 t) ∧ Aside0 (Below w.heap.size w w')) := ⟨(laws_szKinS.calls A0 c0 l0 1048576 t w hr0 hc0 ht).mono fun e w' he => ⟨he.1, ⟨he.2.below⟩⟩⟩
  by_cases hlt : t < 0
  · rw [if_pos hlt] at h
    obtain rfl := Option.some.inj h
    clear h ht hr0 hc0
    go_enter Try.func3, Try.ntmps3
    go_wp2_with (go_at_call 10; refine T10.out.mono ?_; rintro e w1 ⟨rfl, b1⟩)
    go_ret
    exact ⟨rfl, b1.out⟩
  · rw [if_neg hlt] at h
    obtain ⟨x0, hx0, h⟩ := Option.bind_eq_some_iff.1 h
    obtain ⟨v, hv, h⟩ := Option.bind_eq_some_iff.1 h
    have hq : impl_GenerationsOf.f k x0 = some v ∧ laws_eqIntSS.f k v.1 v.1 = some true ∧ laws_eqKinS.f k x0 x0 = some true ∧ (∃ m, laws_markKinS.f k x0 1 = some m ∧ 0 ≤ m.1) ∧ ∃ s, laws_markIntSS.f k v.1 1 = some s ∧ 0 ≤ s.1 ∧ laws_heldIntSS.f k s.2 1 = some s.1 ∧ s.2.length = v.1.length := by
      split at h
      · assumption
      · cases h
    rw [if_pos hq] at h
    obtain rfl := Option.some.inj h
    obtain ⟨v, q⟩ := v
    obtain ⟨hg, he1, he2, ⟨⟨m, x1⟩, hm, hm0⟩, ⟨⟨p, v1⟩, hp, hp0, hh, hlen⟩⟩ := hq
    have hm0' : ¬ m < 0 := by simpa using hm0
    have hp0' : ¬ p < 0 := by simpa using hp0
    have T12 : Aside0 (∀ W, Below w.heap.size w W → Calls Try.prog 12 #[.slice A0 l0.length c0] W fun e w' => ∃ A c, e = .returned (.slice A x0.length c) ∧ Aside0 (x0.length ≤ c ∧ Kd.R k49 49 w' W.heap.size (fun _ => True) (.slice A x0.length c) x0 ∧ Below W.heap.size W w')) := ⟨fun W hW =>
      (laws_toKinS.calls k A0 c0 l0 x0 W (Kd.C_below hr0 hW) hc0 hx0).mono fun e w' he => by
        obtain ⟨u, rfl, hR, hb⟩ := he
        obtain ⟨A, c, rfl, hc, _⟩ := Kd.R_reads hR
        exact ⟨A, c, rfl, ⟨hc, hR, hb⟩⟩⟩
    have T11 : Aside0 (∀ W A c, Kd.C k49 W A x0.length x0 → x0.length ≤ c → Calls Try.prog 11 #[.slice A x0.length c] W fun e w' => ∃ A' c', e = .returned (.tuple #[.slice A' v.length c', .bool q]) ∧ Aside0 (v.length ≤ c' ∧ Kd.C (Kd.slice 3 (Kd.int .i64)) w' A' v.length v ∧ Below W.heap.size W w')) := ⟨fun W A c hC hc =>
      (spec_GenerationsOf.calls k A c x0 v q W hC hc hv).mono fun e w' he => by
        obtain ⟨u, rfl, hR, hb⟩ := he
        obtain ⟨A', c', rfl, hc', hC'⟩ := Kd.S_reads hR
        exact ⟨A', c', rfl, ⟨hc', hC', hb⟩⟩⟩
    have T13 : Aside0 (∀ W A c, Kd.C k49 W A x0.length x0 → x0.length ≤ c → Calls Try.prog 13 #[.slice A x0.length c] W fun e w' => ∃ A' c', e = .returned (.tuple #[.slice A' v.length c', .bool q]) ∧ Aside0 (v.length ≤ c' ∧ Kd.S (Kd.slice 3 (Kd.int .i64)) 37 w' W.heap.size (fun _ => True) (.slice A' v.length c') v ∧ Below W.heap.size W w')) := ⟨fun W A c hC hc =>
      (impl_GenerationsOf.calls k A c x0 v q W hC hc hg).mono fun e w' he => by
        obtain ⟨u, rfl, hR, hb⟩ := he
        obtain ⟨A', c', rfl, hc', hC'⟩ := Kd.S_reads hR
        exact ⟨A', c', rfl, ⟨hc', hR, hb⟩⟩⟩
    have T14 : Aside0 (∀ W A c A' c', Kd.C (Kd.slice 3 (Kd.int .i64)) W A v.length v → v.length ≤ c → Kd.C (Kd.slice 3 (Kd.int .i64)) W A' v.length v → v.length ≤ c' → Calls Try.prog 14 #[.slice A v.length c, .slice A' v.length c'] W fun e w' => e = .returned (.bool true) ∧ Aside0 (Below W.heap.size W w')) := ⟨fun W A c A' c' h1 h2 h3 h4 =>
      (laws_eqIntSS.calls k A c v A' c' v true W h1 h2 h3 h4 he1).mono fun e w' he => ⟨he.1, ⟨he.2.below⟩⟩⟩
    have T15 : Aside0 (∀ W A c A' c', Kd.C k49 W A x0.length x0 → x0.length ≤ c → Kd.C k49 W A' x0.length x0 → x0.length ≤ c' → Calls Try.prog 15 #[.slice A x0.length c, .slice A' x0.length c'] W fun e w' => e = .returned (.bool true) ∧ Aside0 (Below W.heap.size W w')) := ⟨fun W A c A' c' h1 h2 h3 h4 =>
      (laws_eqKinS.calls k A c x0 A' c' x0 true W h1 h2 h3 h4 he2).mono fun e w' he => ⟨he.1, ⟨he.2⟩⟩⟩
    have T16 : Aside0 (∀ w0 W (P : Nat → Prop) A c, Below w0.heap.size w0 W → Kd.R k49 49 W w0.heap.size P (.slice A x0.length c) x0 → Calls Try.prog 16 #[.slice A x0.length c, .int .i64 1] W fun e w' => e = .returned (.int .i64 m) ∧ Aside0 (Below w0.heap.size w0 w' ∧ Kept W w' P)) := ⟨fun w0 W P A c hB hR =>
      (laws_markKinS.calls k P (.slice A x0.length c) x0 1 m x1 w0 W hB hR hm).mono fun e w' he => ⟨he.1, ⟨he.2.2.1, he.2.2.2⟩⟩⟩
    have T17 : Aside0 (∀ w0 W A c, Below w0.heap.size w0 W → Kd.S (Kd.slice 3 (Kd.int .i64)) 37 W w0.heap.size (fun _ => True) (.slice A v.length c) v → Calls Try.prog 17 #[.slice A v.length c, .int .i64 1] W fun e w' => e = .returned (.int .i64 p) ∧ Aside0 (v1.length ≤ c ∧ Kd.C (Kd.slice 3 (Kd.int .i64)) w' A v1.length v1 ∧ Below w0.heap.size w0 w')) := ⟨fun w0 W A c hB hR =>
      (laws_markIntSS.calls k (.slice A v.length c) v 1 p v1 w0 W hB hR hp).mono fun e w' he => by
        obtain ⟨rfl, hS, hb⟩ := he
        have hlen' : v1.length = v.length := hlen
        rw [← hlen'] at hS
        exact ⟨rfl, ⟨(Kd.S_reads' hS).2.1, (Kd.S_reads' hS).2.2, hb⟩⟩⟩
    have T18 : Aside0 (∀ W A c, Kd.C (Kd.slice 3 (Kd.int .i64)) W A v1.length v1 → v1.length ≤ c → Calls Try.prog 18 #[.slice A v.length c, .int .i64 1] W fun e w' => e = .returned (.int .i64 p) ∧ Aside0 (Below W.heap.size W w')) := ⟨fun W A c h1 h2 => by
      have hlen' : v1.length = v.length := hlen
      rw [← hlen']
      exact (laws_heldIntSS.calls k A c v1 1 p W h1 h2 hh).mono fun e w' he => ⟨he.1, ⟨he.2.below⟩⟩⟩
    clear h ht hr0 hc0 hx0 hv hg he1 he2 hm hm0 hp hp0 hh hlen
    go_enter Try.func3, Try.ntmps3
    go_wp2_with (first
      | (go_at_call 10; refine T10.out.mono ?_; rintro e w1 ⟨rfl, b1⟩)
      | (go_at_call 12; refine (T12.out _ b1.out).mono ?_; rintro e w2 ⟨A2, c2, rfl, r2⟩; have b2 := Aside0.mk (below_step b1.out r2.out.2.2); clear b1)
      | (go_at_call 11; refine (T11.out _ _ _ (Kd.R_reads' r2.out.2.1).2.2 r2.out.1).mono ?_; rintro e w3 ⟨A3, c3, rfl, r3⟩; have b3 := Aside0.mk (below_step b2.out r3.out.2.2); clear b2)
      | (go_at_call 12; refine (T12.out _ b3.out).mono ?_; rintro e w4 ⟨A4, c4, rfl, r4⟩; have B3 := b3; clear b3)
      | (go_at_call 13; clear r2; refine (T13.out _ _ _ (Kd.R_reads' r4.out.2.1).2.2 r4.out.1).mono ?_; rintro e w5 ⟨A5, c5, rfl, r5⟩; have h5 := Aside0.mk (Below.mono r5.out.2.2 r4.out.2.2.size); have b5 := Aside0.mk (r4.out.2.2.trans h5.out))
      | (go_at_call 14; refine (T14.out _ _ _ _ _ (Kd.S_reads' r5.out.2.1).2.2 r5.out.1 (Kd.C_below r3.out.2.1 b5.out) r3.out.1).mono ?_; rintro e w6 ⟨rfl, h6⟩; have b6 := Aside0.mk (below_step b5.out h6.out); have R4 := Aside0.mk (Kd.R_below (Kd.R_below (Kd.R_mono (Kd.R_bound r4.out.2.1) (ok' := fun k => k < w4.heap.size) (fun k hk => hk.2.2.1)) r5.out.2.2) h6.out); have R5 := Aside0.mk (Kd.S_below (Kd.S_mono (Kd.S_bound r5.out.2.1) (ok' := fun k => w4.heap.size ≤ k) (fun k hk => hk.2.1)) h6.out); clear b5 h5)
      | (go_at_call 12; refine (T12.out _ (below_then B3.out B3.out.size b6.out)).mono ?_; rintro e w7 ⟨A7, c7, rfl, r7⟩; have b7 := Aside0.mk (below_step b6.out r7.out.2.2); have R4b := Aside0.mk (Kd.R_below R4.out r7.out.2.2); have R5b := Aside0.mk (Kd.S_below R5.out r7.out.2.2); clear b6 R4 R5)
      | (go_at_call 15; refine (T15.out _ _ _ _ _ (Kd.R_reads' R4b.out).2.2 r4.out.1 (Kd.R_reads' r7.out.2.1).2.2 r7.out.1).mono ?_; rintro e w8 ⟨rfl, h8⟩; have b8 := Aside0.mk (below_step b7.out h8.out); have R4c := Aside0.mk (Kd.R_below R4b.out h8.out); have R5c := Aside0.mk (Kd.S_below R5b.out h8.out); clear b7 R4b R5b)
      | (go_at_call 16; refine (T16.out w3 _ (fun k => k < w4.heap.size) _ _ b8.out R4c.out).mono ?_; rintro e w9 ⟨rfl, k9⟩; have b9 := Aside0.mk k9.out.1; have R5d := Aside0.mk (Kd.S_kept R5c.out k9.out.2 (fun k h1 h2 => by omega)); clear b8 R4c R5c)
      | (go_at_call 14; refine (T14.out _ _ _ _ _ (Kd.S_reads' R5d.out).2.2 r5.out.1 (Kd.C_below r3.out.2.1 b9.out) r3.out.1).mono ?_; rintro e w10 ⟨rfl, h10⟩; have b10 := Aside0.mk (below_step b9.out h10.out); have R5e := Aside0.mk (Kd.S_below R5d.out h10.out); clear b9 R5d)
      | (go_at_call 17; refine (T17.out w3 _ _ _ b10.out (Kd.S_mono (Kd.S_lower R5e.out r4.out.2.2.size) (fun _ _ => trivial))).mono ?_; rintro e w11 ⟨rfl, r11⟩; clear b10 R5e)
      | (go_at_call 18; refine (T18.out _ _ _ r11.out.2.1 r11.out.1).mono ?_; rintro e w12 ⟨rfl, h12⟩; have b12 := Aside0.mk (below_step r11.out.2.2 h12.out); have C12 := Aside0.mk (Kd.C_below r11.out.2.1 h12.out); have L12 := Aside0.mk r11.out.1; clear r11)
      | (go_at_call 12; refine (T12.out _ (below_then B3.out B3.out.size b12.out)).mono ?_; rintro e w13 ⟨A13, c13, rfl, r13⟩; have b13 := Aside0.mk (below_step b12.out r13.out.2.2); have C13 := Aside0.mk (Kd.C_below C12.out r13.out.2.2); clear b12 C12 r4)
      | (go_at_call 13; refine (T13.out _ _ _ (Kd.R_reads' r13.out.2.1).2.2 r13.out.1).mono ?_; rintro e w14 ⟨A14, c14, rfl, r14⟩; have b14 := Aside0.mk (below_step b13.out r14.out.2.2); have C14 := Aside0.mk (Kd.C_below C13.out r14.out.2.2); clear b13 C13)
      | (go_at_call 14; refine (T14.out _ _ _ _ _ (Kd.S_reads' r14.out.2.1).2.2 r14.out.1 (Kd.C_below r3.out.2.1 b14.out) r3.out.1).mono ?_; rintro e w15 ⟨rfl, h15⟩; have b15 := Aside0.mk (below_step b14.out h15.out); have C15 := Aside0.mk (Kd.C_below C14.out h15.out); clear b14 C14)
      | (go_at_call 18; refine (T18.out _ _ _ C15.out L12.out).mono ?_; rintro e w16 ⟨rfl, h16⟩; have b16 := Aside0.mk (below_step b15.out h16.out); clear b15 C15))
    go_ret
    exact ⟨rfl, below_then B3.out B3.out.size b16.out⟩

/-- THE ONE PURE STATEMENT of laws_FnExactGenerationsOf: yours. -/
def laws_FnExactGenerationsOf.Pure : Prop := ∀ (l0 : List (S51)), l0.length ≤ maxLen → l0.length * 24 ≤ 140737488351232 → (∀ x ∈ l0, (Lit.int .i64 x.f0).wf = true ∧ (Lit.int .i64 x.f1).wf = true ∧ (Lit.int .i64 x.f2).wf = true) → ∃ k, laws_FnExactGenerationsOf.f k l0 = some true
theorem laws_FnExactGenerationsOf.walk (P : laws_FnExactGenerationsOf.Pure) (a0 : Option Addr) (cap0 : Nat) (l0 : List (S51)) (w : World) (hr0 : Kd.C k51 w a0 l0.length l0) (hc0 : l0.length ≤ cap0) (hm0 : l0.length ≤ maxLen) (y0 : l0.length * 24 ≤ 140737488351232) (hw0 : ∀ x ∈ l0, (Lit.int .i64 x.f0).wf = true ∧ (Lit.int .i64 x.f1).wf = true ∧ (Lit.int .i64 x.f2).wf = true) :
    Calls Try.prog 3 #[.slice a0 l0.length cap0] w fun e w' => e = .returned (.bool true) ∧ Below w.heap.size w w' := by
  obtain ⟨k, h⟩ := P l0 hm0 y0 hw0
  refine (laws_FnExactGenerationsOf.calls k _ _ l0 true w hr0 hc0 h).mono ?_
  rintro e w' ⟨rfl, hd⟩
  exact ⟨rfl, hd⟩

end Go.Proofs.Ytllihaahppelhaa.P
