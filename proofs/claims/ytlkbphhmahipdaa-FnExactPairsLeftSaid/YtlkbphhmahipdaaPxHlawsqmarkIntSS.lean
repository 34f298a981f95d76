/- Calls of the functions of the given program return what the plain Lean functions of the same names return; and a row of a law out of its pure statement. Written by a program of this session out of the translation; Lean checks it. No condition. -/
import Derived.Test.YtlkbphhmahipdaaPx0
import Derived.Test.YtlkbphhmahipdaaPx25
import Derived.Test.YtlkbphhmahipdaaHlp
import Derived.Shelf.Abstract
namespace Go.Proofs.Ytlkbphhmahipdaa.P
open Go.RowKit Go.Proofs.YtlkbphhmahipdaaW.PrintWords Go.Proofs.YtlkbphhmahipdaaW.PrintLast Go.Proofs.YtlkbphhmahipdaaW.PrintMore
attribute [local go_sem] max2_int min2_int max_two min_two max_three min_three max_four min_four   -- for this text's walks alone
set_option linter.unusedVariables false
set_option linter.unusedSimpArgs false

/-! ### laws_markIntSS: function 16, by hand -/
-- IMPORT Derived.Test.YtlkbphhmahipdaaHlp
-- IMPORT Derived.Shelf.Abstract
def laws_markIntSS.lp : Nat → List (List Int) → Int → Nat → Option (Int × List (List Int))
  | 0, _, _, _ => none
  | k + 1, xs, a, i => if i < xs.length then (laws_markIntS.f k (xs.getD (i : Int).toNat []) a).bind fun s => laws_markIntSS.lp k (xs.set i s.2) s.1 (i + 1) else some (a, xs)
def laws_markIntSS.f (k : Nat) (l0 : List (List Int)) (a1 : Int) : Option (Int × List (List Int)) := laws_markIntSS.lp k l0 a1 0
theorem laws_markIntSS.lp_mono (k : Nat) : ∀ (xs : List (List Int)) (a : Int) (i : Nat), LeO (laws_markIntSS.lp k xs a i) (laws_markIntSS.lp (k + 1) xs a i) := by
  induction k with
  | zero => intro xs a i r h; simp [laws_markIntSS.lp] at h
  | succ k ih =>
    intro xs a i
    rw [laws_markIntSS.lp, laws_markIntSS.lp]
    exact LeO.ite (LeO.bind (laws_markIntS.mono _ _ _) fun s => ih _ _ _) (LeO.refl _)
theorem laws_markIntSS.mono (l0 : List (List Int)) (a1 : Int) (k : Nat) : LeO (laws_markIntSS.f k l0 a1) (laws_markIntSS.f (k + 1) l0 a1) := laws_markIntSS.lp_mono k l0 a1 0
set_option maxHeartbeats 4000000 in
set_option maxRecDepth 100000 in
theorem laws_markIntSS.calls (k : Nat) (u : Value) (l0 : List (List Int)) (a1 : Int) (r1 : Int) (r2 : List (List Int)) (w0 w : World) (hB : Below w0.heap.size w0 w) (ho0 : Kd.S (Kd.slice 3 (Kd.int .i64)) 36 w w0.heap.size (fun _ => True) u l0) (h : laws_markIntSS.f k l0 a1 = some (r1, r2)) :
    Calls Try.prog 16 #[u, .int .i64 a1] w fun e w' => e = .returned (.int .i64 r1) ∧ Kd.S (Kd.slice 3 (Kd.int .i64)) 36 w' w0.heap.size (fun _ => True) u r2 ∧ Below w0.heap.size w0 w' := by
  obtain ⟨A, c, rfl⟩ := Kd.S_slice ho0
  have hmax := Hlp.C_len (Kd.S_reads' ho0).2.2
  have HS0 := Aside0.mk ho0
  have HB0 := Aside0.mk hB
  have HH := Aside0.mk h
  generalize hn : l0.length = n at HS0 hmax ⊢
  have HN := Aside0.mk hn
  clear ho0 hB h hn
  go_enter Try.func16, Try.ntmps16
  go_wp2
  go_loopg [1, 5] k (fun gg s1 s5 wr => ∃ (xs : List (List Int)) (a : Int) (i : Nat), s1 = .int .i64 a ∧ s5 = .int .i64 (i : Int) ∧ i ≤ n ∧ Aside0 (xs.length = n) ∧ Aside0 (laws_markIntSS.lp gg xs a i = some (r1, r2)) ∧ Aside0 (Kd.S (Kd.slice 3 (Kd.int .i64)) 36 wr w0.heap.size (fun _ => True) (.slice A n c) xs) ∧ Aside0 (Below w0.heap.size w0 wr))
  case atStart => exact ⟨l0, a1, 0, rfl, rfl, Nat.zero_le _, HN, HH, HS0, HB0⟩
  case round =>
    obtain ⟨xs, a, i, rfl, rfl, hin, HX, HL, HS, HB⟩ := hrel
    clear HS0 HH HB0
    cases gk with
    | zero => exact absurd HL.out (by simp [laws_markIntSS.lp])
    | succ kf =>
    have hl := HL.out
    simp only [laws_markIntSS.lp] at hl
    rw [HX.out] at hl
    by_cases hi : i < n
    · rw [if_pos hi] at hl
      obtain ⟨s, hs, hl⟩ := Option.bind_eq_some_iff.1 hl
      have hiz : (i : Int) < (n : Int) := by omega
      obtain ⟨g, cap, e1, _, _, _⟩ := Kd.S_form HS.out (by have := HX.out; omega)
      obtain ⟨rfl, rfl⟩ : A = some ⟨g, 0, none⟩ ∧ c = cap := by injection e1 with e1 e2 e3; exact ⟨e1, e3⟩
      obtain ⟨oki, cs, hcl, hM, hcc, hoki, hH⟩ := Kd.S_lend HS.out [] (i : Int) (by omega) hiz
      obtain ⟨v, rfl, hR⟩ := hM
      have hcell : wr.cell? ⟨g, i, none⟩ = some v := by
        have := hcc 0 v rfl
        simpa [Kd.slice] using this
      have hcall := laws_markIntS.calls kf oki v (xs.getD (i : Int).toNat []) a s.1 s.2 w0 wr HB.out hR hs
      have HCA := Aside0.mk hcall
      have HHH := Aside0.mk hH
      have HL2 := Aside0.mk hl
      clear hl hs hcc hoki hH hcall hcl e1 HL
      go_wp2_with (go_at_call 26; refine HCA.out.mono ?_; rintro e w2 ⟨rfl, hR2, hB2, hk2⟩; have HR2 := Aside0.mk hR2; have HB2 := Aside0.mk hB2; have HK2 := Aside0.mk hk2; clear hR2 hB2 hk2 HCA)
      go_roundg kf
      case measure => omega
      case rel =>
        refine ⟨xs.set i s.2, s.1, i + 1, rfl, by go_num, by omega, ⟨by rw [List.length_set]; exact HX.out⟩, HL2, ⟨?_⟩, HB2⟩
        have h1 := Kd.H_step (Kd.H_widen HHH.out) (fun k _ hn hlt => HK2.out.2 k hlt (fun ho => hn (.inl ho)))
        exact Kd.H_back h1 (okp := fun k => oki k ∨ wr.heap.size ≤ k) ⟨v, rfl, HR2.out⟩ (fun k hk => hk.elim .inl (fun h => .inr ⟨trivial, h⟩))
    · rw [if_neg hi] at hl
      obtain ⟨rfl, rfl⟩ := Prod.mk.inj (Option.some.inj hl)
      have hiz : ¬ (i : Int) < (n : Int) := by omega
      clear hl
      go_wp2
      go_ret
      exact ⟨rfl, HS.out, HB.out⟩

end Go.Proofs.Ytlkbphhmahipdaa.P
