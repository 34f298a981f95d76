/- Calls of the functions of the given program return what the plain Lean functions of the same names return; and a row of a law out of its pure statement. Written by a program of this session out of the translation; Lean checks it. No condition. -/
import Derived.Test.YtlkbphhmahipdaaPx0
import Derived.Test.YtlkbphhmahipdaaPx1
import Derived.Test.YtlkbphhmahipdaaPxHimplqisTalk
import Derived.Test.YtlkbphhmahipdaaPxHspecqPairsLeft
import Derived.Test.YtlkbphhmahipdaaPxHimplqPairsLeft
import Derived.Test.YtlkbphhmahipdaaPx28
import Derived.Test.YtlkbphhmahipdaaPxHlawsqmarkIntSS
import Derived.Test.YtlkbphhmahipdaaPx30
import Derived.Test.YtlkbphhmahipdaaTs
namespace Go.Proofs.Ytlkbphhmahipdaa.P
open Go.RowKit Go.Proofs.YtlkbphhmahipdaaW.PrintWords Go.Proofs.YtlkbphhmahipdaaW.PrintLast Go.Proofs.YtlkbphhmahipdaaW.PrintMore
attribute [local go_sem] max2_int min2_int max_two min_two max_three min_three max_four min_four   -- for this text's walks alone
set_option linter.unusedVariables false
set_option linter.unusedSimpArgs false

/-! ### laws_FnExactPairsLeft: function 4, by hand -/
-- IMPORT Derived.Test.YtlkbphhmahipdaaTs
open Classical in
/-- The law in short: what each call tells. -/
noncomputable def laws_FnExactPairsLeft.f (k : Nat) (a0 : Int) (a1 : ByteArray) : Option Bool :=
  if a1.size ≤ 1048576 then
    if spec_taTalk.f k a1 = some (impl_isTalk.ok a1) ∧ laws_eqIntSS.f k (impl_PairsLeft.rows a0 a1) (impl_PairsLeft.rows a0 a1) = some true ∧ ∃ s, laws_markIntSS.f k (impl_PairsLeft.rows a0 a1) 1 = some s ∧ 0 ≤ s.1 ∧ laws_heldIntSS.f k s.2 1 = some s.1 ∧ s.2.length = (impl_PairsLeft.rows a0 a1).length then some true else none
  else some true
set_option maxHeartbeats 8000000 in
set_option maxRecDepth 100000 in
theorem laws_FnExactPairsLeft.calls (k : Nat) (a0 : Int) (a1 : ByteArray) (r : Bool) (w : World) (h : laws_FnExactPairsLeft.f k a0 a1 = some r) :
    Calls Try.prog 4 #[.int .i64 a0, .string a1] w fun e w' => e = .returned (.bool r) ∧ Below w.heap.size w w' := by
  unfold laws_FnExactPairsLeft.f at h
  by_cases hs : a1.size ≤ 1048576
  · rw [if_pos hs] at h
    have hq : spec_taTalk.f k a1 = some (impl_isTalk.ok a1) ∧ laws_eqIntSS.f k (impl_PairsLeft.rows a0 a1) (impl_PairsLeft.rows a0 a1) = some true ∧ ∃ s, laws_markIntSS.f k (impl_PairsLeft.rows a0 a1) 1 = some s ∧ 0 ≤ s.1 ∧ laws_heldIntSS.f k s.2 1 = some s.1 ∧ s.2.length = (impl_PairsLeft.rows a0 a1).length := by
      split at h
      · assumption
      · cases h
    rw [if_pos hq] at h
    obtain rfl := Option.some.inj h
    obtain ⟨ht, he1, ⟨⟨p, v1⟩, hp, hp0, hh, hlen⟩⟩ := hq
    have hp0' : ¬ p < 0 := by simpa using hp0
    have hsz : ¬ (1048576 : Int) < (a1.size : Int) := by omega
    have TS : Aside0 (∀ W, Calls Try.prog 13 #[.int .i64 a0, .string a1] W fun e w' => ∃ A c, e = .returned (.tuple #[.slice A (impl_PairsLeft.rows a0 a1).length c, .bool (impl_PairsLeft.ok a0 a1)]) ∧ Aside0 ((impl_PairsLeft.rows a0 a1).length ≤ c ∧ Kd.C (Kd.slice 3 (Kd.int .i64)) w' A (impl_PairsLeft.rows a0 a1).length (impl_PairsLeft.rows a0 a1) ∧ Below W.heap.size W w')) := ⟨fun W =>
      (spec_PairsLeft.has a0 a1 k ht W).mono fun e w' he => by
        obtain ⟨v, rfl, ps, hH, hv, hok, hb⟩ := he
        have hS := hH.S (Nat.le_refl _) (Nat.le_refl _)
        rw [hv] at hS
        obtain ⟨A, c, rfl, hc, hC⟩ := Kd.S_reads hS
        exact ⟨A, c, rfl, ⟨hc, hC, hb⟩⟩⟩
    have TI : Aside0 (∀ W, Calls Try.prog 14 #[.int .i64 a0, .string a1] W fun e w' => ∃ A c, e = .returned (.tuple #[.slice A (impl_PairsLeft.rows a0 a1).length c, .bool (impl_PairsLeft.ok a0 a1)]) ∧ Aside0 ((impl_PairsLeft.rows a0 a1).length ≤ c ∧ Kd.S (Kd.slice 3 (Kd.int .i64)) 36 w' W.heap.size (fun _ => True) (.slice A (impl_PairsLeft.rows a0 a1).length c) (impl_PairsLeft.rows a0 a1) ∧ Below W.heap.size W w')) := ⟨fun W =>
      (impl_PairsLeft.has a0 a1 hs W).mono fun e w' he => by
        obtain ⟨v, rfl, ps, hH, hv, hok, hb⟩ := he
        have hS := hH.S (Nat.le_refl _) (Nat.le_refl _)
        rw [hv] at hS
        obtain ⟨A, c, rfl, hc, hC⟩ := Kd.S_reads hS
        exact ⟨A, c, rfl, ⟨hc, hS, hb⟩⟩⟩
    clear h hs ht
    generalize impl_PairsLeft.rows a0 a1 = v at *
    generalize impl_PairsLeft.ok a0 a1 = q at *
    have T14 : Aside0 (∀ W A c A' c', Kd.C (Kd.slice 3 (Kd.int .i64)) W A v.length v → v.length ≤ c → Kd.C (Kd.slice 3 (Kd.int .i64)) W A' v.length v → v.length ≤ c' → Calls Try.prog 15 #[.slice A v.length c, .slice A' v.length c'] W fun e w' => e = .returned (.bool true) ∧ Aside0 (Below W.heap.size W w')) := ⟨fun W A c A' c' h1 h2 h3 h4 =>
      (laws_eqIntSS.calls k A c v A' c' v true W h1 h2 h3 h4 he1).mono fun e w' he => ⟨he.1, ⟨he.2.below⟩⟩⟩
    have T17 : Aside0 (∀ w0 W A c, Below w0.heap.size w0 W → Kd.S (Kd.slice 3 (Kd.int .i64)) 36 W w0.heap.size (fun _ => True) (.slice A v.length c) v → Calls Try.prog 16 #[.slice A v.length c, .int .i64 1] W fun e w' => e = .returned (.int .i64 p) ∧ Aside0 (v1.length ≤ c ∧ Kd.C (Kd.slice 3 (Kd.int .i64)) w' A v1.length v1 ∧ Below w0.heap.size w0 w')) := ⟨fun w0 W A c hB hR =>
      (laws_markIntSS.calls k (.slice A v.length c) v 1 p v1 w0 W hB hR hp).mono fun e w' he => by
        obtain ⟨rfl, hS, hb⟩ := he
        have hlen' : v1.length = v.length := hlen
        rw [← hlen'] at hS
        exact ⟨rfl, ⟨(Kd.S_reads' hS).2.1, (Kd.S_reads' hS).2.2, hb⟩⟩⟩
    have T18 : Aside0 (∀ W A c, Kd.C (Kd.slice 3 (Kd.int .i64)) W A v1.length v1 → v1.length ≤ c → Calls Try.prog 17 #[.slice A v.length c, .int .i64 1] W fun e w' => e = .returned (.int .i64 p) ∧ Aside0 (Below W.heap.size W w')) := ⟨fun W A c h1 h2 => by
      have hlen' : v1.length = v.length := hlen
      rw [← hlen']
      exact (laws_heldIntSS.calls k A c v1 1 p W h1 h2 hh).mono fun e w' he => ⟨he.1, ⟨he.2.below⟩⟩⟩
    clear he1 hp hp0 hh hlen
    go_enter Try.func4, Try.ntmps4
    go_wp2_with (first
      | (go_at_call 13; refine (TS.out _).mono ?_; rintro e w3 ⟨A3, c3, rfl, r3⟩; clear TS)
      | (go_at_call 14; have _t := T17; refine (TI.out _).mono ?_; rintro e w5 ⟨A5, c5, rfl, r5⟩; have b5 := Aside0.mk r5.out.2.2)
      | (go_at_call 15; have _t := T17; refine (T14.out _ _ _ _ _ (Kd.S_reads' r5.out.2.1).2.2 r5.out.1 (Kd.C_below r3.out.2.1 b5.out) r3.out.1).mono ?_; rintro e w6 ⟨rfl, h6⟩; have b6 := Aside0.mk (below_step b5.out h6.out); have R5 := Aside0.mk (Kd.S_below r5.out.2.1 h6.out); clear b5)
      | (go_at_call 16; refine (T17.out w3 _ _ _ b6.out R5.out).mono ?_; rintro e w11 ⟨rfl, r11⟩; clear b6 R5 T17 r5)
      | (go_at_call 17; refine (T18.out _ _ _ r11.out.2.1 r11.out.1).mono ?_; rintro e w12 ⟨rfl, h12⟩; have b12 := Aside0.mk (below_step r11.out.2.2 h12.out); have C12 := Aside0.mk (Kd.C_below r11.out.2.1 h12.out); have L12 := Aside0.mk r11.out.1; clear r11)
      | (go_at_call 14; refine (TI.out _).mono ?_; rintro e w14 ⟨A14, c14, rfl, r14⟩; have b14 := Aside0.mk (below_step b12.out r14.out.2.2); have C14 := Aside0.mk (Kd.C_below C12.out r14.out.2.2); clear b12 C12)
      | (go_at_call 15; refine (T14.out _ _ _ _ _ (Kd.S_reads' r14.out.2.1).2.2 r14.out.1 (Kd.C_below r3.out.2.1 b14.out) r3.out.1).mono ?_; rintro e w15 ⟨rfl, h15⟩; have b15 := Aside0.mk (below_step b14.out h15.out); have C15 := Aside0.mk (Kd.C_below C14.out h15.out); clear b14 C14)
      | (go_at_call 17; refine (T18.out _ _ _ C15.out L12.out).mono ?_; rintro e w16 ⟨rfl, h16⟩; have b16 := Aside0.mk (below_step b15.out h16.out); clear b15 C15))
    go_ret
    exact ⟨rfl, below_step r3.out.2.2 (Below.mono b16.out (Nat.le_refl _))⟩
  · rw [if_neg hs] at h
    obtain rfl := Option.some.inj h
    have hsz : (1048576 : Int) < (a1.size : Int) := by omega
    clear h hs
    go_enter Try.func4, Try.ntmps4
    go_wp2
    go_ret
    exact ⟨rfl, Below.refl _ _⟩

/-- THE ONE PURE STATEMENT of laws_FnExactPairsLeft: yours. -/
def laws_FnExactPairsLeft.Pure : Prop := ∀ (a0 : Int) (a1 : ByteArray), (Lit.int .i64 a0).wf = true → a1.size ≤ 140737488351232 → ∃ k, laws_FnExactPairsLeft.f k a0 a1 = some true
theorem laws_FnExactPairsLeft.walk (P : laws_FnExactPairsLeft.Pure) (a0 : Int) (a1 : ByteArray) (w : World) (w0 : (Lit.int .i64 a0).wf = true) (w1 : a1.size ≤ 140737488351232) :
    Calls Try.prog 4 #[.int .i64 a0, .string a1] w fun e w' => e = .returned (.bool true) ∧ Below w.heap.size w w' := by
  obtain ⟨k, h⟩ := P a0 a1 w0 w1
  refine (laws_FnExactPairsLeft.calls k a0 a1 true w h).mono ?_
  rintro e w' ⟨rfl, hd⟩
  exact ⟨rfl, hd⟩

end Go.Proofs.Ytlkbphhmahipdaa.P
