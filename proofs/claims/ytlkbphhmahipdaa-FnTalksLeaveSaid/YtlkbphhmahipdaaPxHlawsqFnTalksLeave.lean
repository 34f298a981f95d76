/- Calls of the functions of the given program return what the plain Lean functions of the same names return; and a row of a law out of its pure statement. Written by a program of this session out of the translation; Lean checks it. No condition. -/
import Derived.Test.YtlkbphhmahipdaaPx0
import Derived.Test.YtlkbphhmahipdaaF2
import Derived.Test.YtlkbphhmahipdaaF3
import Derived.Test.YtlkbphhmahipdaaPx31
import Derived.Test.YtlkbphhmahipdaaF4
import Derived.Test.YtlkbphhmahipdaaF5
import Derived.Test.YtlkbphhmahipdaaF6
import Derived.Test.YtlkbphhmahipdaaTs
import Derived.Test.YtlkbphhmahipdaaNx
import Derived.BigQuiet
import Derived.Deep.RegionHeld3
namespace Go.Proofs.Ytlkbphhmahipdaa.P
open Go.RowKit Go.Proofs.YtlkbphhmahipdaaW.PrintWords Go.Proofs.YtlkbphhmahipdaaW.PrintLast Go.Proofs.YtlkbphhmahipdaaW.PrintMore
attribute [local go_sem] max2_int min2_int max_two min_two max_three min_three max_four min_four   -- for this text's walks alone
set_option linter.unusedVariables false
set_option linter.unusedSimpArgs false

/-! ### laws_FnTalksLeave: function 10, by hand -/
-- IMPORT Derived.Test.YtlkbphhmahipdaaTs
-- IMPORT Derived.Test.YtlkbphhmahipdaaNx
-- IMPORT Derived.BigQuiet
-- IMPORT Derived.Deep.RegionHeld3
/-- A row of rows, of numbers, of texts that can be read. -/
structure laws_FnTalksLeave.RR (W : World) (A : Option Addr) (c : Nat) (R : List (List Int)) : Prop where
  len : R.length ≤ c
  rd : Kd.C (Kd.slice 3 (Kd.int .i64)) W A R.length R
structure laws_FnTalksLeave.RI (W : World) (A : Option Addr) (c : Nat) (R : List Int) : Prop where
  len : R.length ≤ c
  rd : Kd.C (Kd.int .i64) W A R.length R
structure laws_FnTalksLeave.RS (W : World) (A : Option Addr) (c : Nat) (R : List ByteArray) : Prop where
  len : R.length ≤ c
  rd : Kd.C Kd.string W A R.length R
theorem laws_FnTalksLeave.RR.below {W W' : World} {A : Option Addr} {c : Nat} {R : List (List Int)} (h : laws_FnTalksLeave.RR W A c R) (hb : Below W.heap.size W W') : laws_FnTalksLeave.RR W' A c R := ⟨h.len, Kd.C_below h.rd hb⟩
theorem laws_FnTalksLeave.RI.below {W W' : World} {A : Option Addr} {c : Nat} {R : List Int} (h : laws_FnTalksLeave.RI W A c R) (hb : Below W.heap.size W W') : laws_FnTalksLeave.RI W' A c R := ⟨h.len, Kd.C_below h.rd hb⟩
theorem laws_FnTalksLeave.RS.below {W W' : World} {A : Option Addr} {c : Nat} {R : List ByteArray} (h : laws_FnTalksLeave.RS W A c R) (hb : Below W.heap.size W W') : laws_FnTalksLeave.RS W' A c R := ⟨h.len, Kd.C_below h.rd hb⟩
/-- What holds all along the first half. -/
structure laws_FnTalksLeave.Bd (w W : World) (A7 A9 A21 A23 A25 A27 A29 A31 : Option Addr) (c7 c9 c21 c23 c25 c27 c29 c31 : Nat) (R : List (List Int)) (S P : List Int) (X : List ByteArray) : Prop where
  bel : Below w.heap.size w W
  r7 : laws_FnTalksLeave.RR W A7 c7 R
  r9 : laws_FnTalksLeave.RR W A9 c9 R
  r21 : laws_FnTalksLeave.RI W A21 c21 S
  r23 : laws_FnTalksLeave.RI W A23 c23 S
  r25 : laws_FnTalksLeave.RI W A25 c25 P
  r27 : laws_FnTalksLeave.RI W A27 c27 P
  r29 : laws_FnTalksLeave.RS W A29 c29 X
  r31 : laws_FnTalksLeave.RS W A31 c31 X
theorem laws_FnTalksLeave.Bd.below {w W W' : World} {A7 A9 A21 A23 A25 A27 A29 A31 : Option Addr} {c7 c9 c21 c23 c25 c27 c29 c31 : Nat} {R : List (List Int)} {S P : List Int} {X : List ByteArray} (h : laws_FnTalksLeave.Bd w W A7 A9 A21 A23 A25 A27 A29 A31 c7 c9 c21 c23 c25 c27 c29 c31 R S P X) (hb : Below W.heap.size W W') : laws_FnTalksLeave.Bd w W' A7 A9 A21 A23 A25 A27 A29 A31 c7 c9 c21 c23 c25 c27 c29 c31 R S P X :=
  ⟨below_step h.bel hb, h.r7.below hb, h.r9.below hb, h.r21.below hb, h.r23.below hb, h.r25.below hb, h.r27.below hb, h.r29.below hb, h.r31.below hb⟩
/-- What holds all along the second half. -/
structure laws_FnTalksLeave.Bd2 (w W : World) (A51 A53 A57 A59 : Option Addr) (c51 c53 c57 c59 : Nat) (R2 R3 : List (List Int)) : Prop where
  bel : Below w.heap.size w W
  r51 : laws_FnTalksLeave.RR W A51 c51 R2
  r53 : laws_FnTalksLeave.RR W A53 c53 R2
  r57 : laws_FnTalksLeave.RR W A57 c57 R3
  r59 : laws_FnTalksLeave.RR W A59 c59 R3
theorem laws_FnTalksLeave.Bd2.below {w W W' : World} {A51 A53 A57 A59 : Option Addr} {c51 c53 c57 c59 : Nat} {R2 R3 : List (List Int)} (h : laws_FnTalksLeave.Bd2 w W A51 A53 A57 A59 c51 c53 c57 c59 R2 R3) (hb : Below W.heap.size W W') : laws_FnTalksLeave.Bd2 w W' A51 A53 A57 A59 c51 c53 c57 c59 R2 R3 :=
  ⟨below_step h.bel hb, h.r51.below hb, h.r53.below hb, h.r57.below hb, h.r59.below hb⟩
/-- A row of pairs, read. -/
theorem laws_FnTalksLeave.RR.two {W : World} {A : Option Addr} {c : Nat} {R : List (List Int)} (h : laws_FnTalksLeave.RR W A c R) (i : Nat) (hi : i < R.length) (x y : Int) (e : rd_L1 R (i : Int) = [x, y]) :
    ∃ ad a2 c2, A = some ad ∧ W.cell? (ad.add i) = some (.slice (some a2) 2 c2) ∧ W.cell? a2 = some (.int .i64 x) ∧ W.cell? (a2.add 1) = some (.int .i64 y) := by
  obtain ⟨ad, A2, c2, rfl, hc, _, hC⟩ := at_L1 h.rd (i : Int) (by omega) (by omega)
  rw [e] at hc hC
  obtain ⟨a2, rfl, h0⟩ := Kd.at_int hC 0 (by omega) (by show (0 : Int) < 2; omega)
  obtain ⟨a3, e3, h1⟩ := Kd.at_int hC 1 (by omega) (by show (1 : Int) < 2; omega)
  injection e3 with e3
  subst e3
  rw [show ((0 : Int)).toNat = 0 from rfl, Addr.add_zero'] at h0
  exact ⟨ad, a2, c2, rfl, hc, h0, h1⟩
/-- The six statements, listed. -/
def laws_FnTalksLeave.six : List ByteArray := [⟨#[115, 45]⟩, ⟨#[115, 43]⟩, ⟨#[115, 33]⟩, ⟨#[112, 45]⟩, ⟨#[112, 43]⟩, ⟨#[112, 33]⟩]
theorem laws_FnTalksLeave.six_at (j : Nat) (hj : j < 6) : rdOf ByteArray.empty laws_FnTalksLeave.six (j : Int) = Nx.stm j := by
  match j, hj with
  | 0, _ | 1, _ | 2, _ | 3, _ | 4, _ | 5, _ => rfl
theorem laws_FnTalksLeave.six_cell {W : World} {A : Option Addr} {c : Nat} (h : laws_FnTalksLeave.RS W A c laws_FnTalksLeave.six) (j : Nat) (hj : j < 6) : ∃ ad, A = some ad ∧ W.cell? (ad.add j) = some (.string (Nx.stm j)) := by
  obtain ⟨ad, e, h1⟩ := Kd.at_string h.rd (j : Int) (by omega) (by show (j : Int) < 6; omega)
  rw [laws_FnTalksLeave.six_at j hj, Int.toNat_natCast] at h1
  exact ⟨ad, e, h1⟩
theorem laws_FnTalksLeave.six_run (a : Act) (o : Oper) (W : World) (ho : o.op = .buildSlice 31 6 #[(0, .const (.string ⟨#[115, 45]⟩)), (1, .const (.string ⟨#[115, 43]⟩)), (2, .const (.string ⟨#[115, 33]⟩)), (3, .const (.string ⟨#[112, 45]⟩)), (4, .const (.string ⟨#[112, 43]⟩)), (5, .const (.string ⟨#[112, 33]⟩))]) : (execOp a.eval o).run Try.prog W = .ok (.value (.slice (some ⟨W.heap.size, 0, none⟩) laws_FnTalksLeave.six.length laws_FnTalksLeave.six.length)) (W.alloc (.cells ([.string (⟨#[115, 45]⟩ : ByteArray), .string (⟨#[115, 43]⟩ : ByteArray), .string (⟨#[115, 33]⟩ : ByteArray), .string (⟨#[112, 45]⟩ : ByteArray), .string (⟨#[112, 43]⟩ : ByteArray), .string (⟨#[112, 33]⟩ : ByteArray)] : List Value).toArray 9)) := by
  unfold execOp
  rw [ho]
  first | (go_simp; done) | (go_simp; rfl) | rfl
/-- What the law's calls tell. -/
structure laws_FnTalksLeave.Facts (k : Nat) (l0 l1 : List Int) (n : Int) (talk : ByteArray) (q t : Bool) (R : List (List Int)) (S P : List Int) (X : List ByteArray) (a b : Int) (told : Bool) (d : Nat → Bool) (c : Nat → Nat) (n2 v2 n3 v3 : Int) (q2 q3 : Bool) (R2 R3 : List (List Int)) (s : ByteArray) (p : Bool) : Prop where
  draw : spec_DrawPairsLeft.f k l0 = some (n, talk)
  iL : impl_PairsLeft.f n talk = some (R, q)
  sL : spec_PairsLeft.f k n talk = some (R, q)
  iC : impl_CountLeft.f n talk = some ((R.length : Int), q)
  sC : spec_CountLeft.f k n talk = some ((R.length : Int), q)
  iF : impl_FirstLeft.f n talk = some (a, b, t)
  sF : spec_FirstLeft.f k n talk = some (a, b, t)
  iS : impl_SumsAlone.f n talk = some (S, q)
  sS : spec_SumsAlone.f k n talk = some (S, q)
  iP : impl_ProductsAlone.f n talk = some (P, q)
  sP : spec_ProductsAlone.f k n talk = some (P, q)
  iN : impl_NextStatements.f n talk = some (X, q)
  sN : spec_NextStatements.f k n talk = some (X, q)
  iT : impl_IsToldByTalk.f n talk = some (told, q)
  sT : spec_IsToldByTalk.f k n talk = some (told, q)
  gR : laws_gRows.f k R R = some true
  gS : laws_gSame.f k S S = some true
  gP : laws_gSame.f k P P = some true
  gX : laws_gTexts.f k X X = some true
  iK : q = true → impl_IsTalk.f talk = some true
  ht : decide (0 < (R.length : Int)) = t
  hq : q = false → t = false
  pR : laws_gPairs.f k R = some true
  r0 : t = true → rd_L1 R 0 = [a, b]
  tl : q = true → told = ((R.length : Int) == 1)
  uS : laws_gRises.f k S = some true
  uP : laws_gRises.f k P = some true
  lS : S.length ≤ R.length
  lP : P.length ≤ R.length
  lR : R.length ≤ 2000
  n40 : q = true → 2 ≤ n ∧ n ≤ 40
  e0 : q = true → talk.toList = [] → (R.length : Int) = Int.tdiv (n * (n + 1)) 2
  row : q = true → ∀ i, i < R.length → ∃ x y, rd_L1 R (i : Int) = [x, y] ∧ 1 ≤ x ∧ x ≤ y ∧ y ≤ n ∧ laws_gHas.f k S (x + y) = some (d i) ∧ impl_IsTrueTalk.f n x y talk = some (true, true)
  all : q = true → (List.range R.length).countP d = S.length
  zt : q = true → talk.size ≤ 24
  xX : X.length ≤ 6
  st : q = true → talk.size + 2 ≤ 24 → ∀ j, j < 6 → impl_CountLeft.f n (talk ++ Nx.stm j) = some ((c j : Int), true) ∧ c j ≤ R.length ∧ (X.any fun x => x.toList == (Nx.stm j).toList) = decide (0 < (c j : Int))
  s0 : q = true → talk.size + 2 ≤ 24 → (c 1 : Int) = (S.length : Int) ∧ (c 4 : Int) = (P.length : Int) ∧ (c 0 : Int) = (R.length : Int) - (S.length : Int) ∧ (c 3 : Int) = (R.length : Int) - (P.length : Int)
  d2 : spec_DrawPairsOfSum.f l1 = some (n2, v2)
  i2 : impl_PairsOfSum.f n2 v2 = some (R2, q2)
  s2 : spec_PairsOfSum.f n2 v2 = some (R2, q2)
  d3 : spec_DrawPairsOfProduct.f l1 = some (n3, v3)
  i3 : impl_PairsOfProduct.f n3 v3 = some (R3, q3)
  s3 : spec_PairsOfProduct.f n3 v3 = some (R3, q3)
  d4 : spec_DrawIsTalk.f k l1 = some s
  i4 : impl_IsTalk.f s = some p
  s4 : spec_IsTalk.f k s = some p
  g2 : laws_gRows.f k R2 R2 = some true
  g3 : laws_gRows.f k R3 R3 = some true
  p2 : laws_gPairs.f k R2 = some true
  p3 : laws_gPairs.f k R3 = some true
  l2 : R2.length ≤ 2000
  l3 : R3.length ≤ 2000
  row2 : ∀ i, i < R2.length → ∃ x y, rd_L1 R2 (i : Int) = [x, y] ∧ 1 ≤ x ∧ x ≤ 40 ∧ 1 ≤ y ∧ y ≤ 40 ∧ x + y = v2 ∧ y ≤ n2
  row3 : ∀ i, i < R3.length → ∃ x y, rd_L1 R3 (i : Int) = [x, y] ∧ 1 ≤ x ∧ x ≤ 40 ∧ 1 ≤ y ∧ y ≤ 40 ∧ x * y = v3 ∧ y ≤ n3
open Classical in
/-- The law in short: what each call tells. -/
noncomputable def laws_FnTalksLeave.f (k : Nat) (l0 l1 : List Int) : Option Bool :=
  if laws_big.f l0 l1 = some true then some true
  else if laws_big.f l0 l1 = some false ∧ ∃ n talk q t R S P X a b told d c n2 v2 n3 v3 q2 q3 R2 R3 s p, laws_FnTalksLeave.Facts k l0 l1 n talk q t R S P X a b told d c n2 v2 n3 v3 q2 q3 R2 R3 s p then some true else none
set_option maxHeartbeats 40000000 in
set_option maxRecDepth 100000 in
theorem laws_FnTalksLeave.calls (k : Nat) (A0 : Option Addr) (c0 : Nat) (l0 : List Int) (A1 : Option Addr) (c1 : Nat) (l1 : List Int) (r : Bool) (w : World) (hr0 : Kd.C (Kd.int .u8) w A0 l0.length l0) (hc0 : l0.length ≤ c0) (hr1 : Kd.C (Kd.int .u8) w A1 l1.length l1) (hc1 : l1.length ≤ c1) (h : laws_FnTalksLeave.f k l0 l1 = some r) :
    Calls Try.prog 10 #[.slice A0 l0.length c0, .slice A1 l1.length c1] w fun e w' => e = .returned (.bool r) ∧ Below w.heap.size w w' := by
  unfold laws_FnTalksLeave.f at h
  by_cases hb : laws_big.f l0 l1 = some true
  · rw [if_pos hb] at h
    obtain rfl := Option.some.inj h
    have TB := Aside0.mk (laws_big.calls A0 c0 l0 A1 c1 l1 true w hr0 hc0 hr1 hc1 hb)
    clear h hb hr0 hc0 hr1 hc1
    go_enter Try.func10, Try.ntmps10
    go_wp2_with (go_at_call 32; refine TB.out.mono ?_; rintro e w2 ⟨rfl, hd⟩; have hb2 := Aside0.mk hd.below; clear hd)
    go_ret
    exact ⟨rfl, hb2.out⟩
  rw [if_neg hb] at h
  have hq : laws_big.f l0 l1 = some false ∧ ∃ n talk q t R S P X a b told d c n2 v2 n3 v3 q2 q3 R2 R3 s p, laws_FnTalksLeave.Facts k l0 l1 n talk q t R S P X a b told d c n2 v2 n3 v3 q2 q3 R2 R3 s p := by
    split at h
    · assumption
    · cases h
  rw [if_pos hq] at h
  obtain rfl := Option.some.inj h
  obtain ⟨hbg, n, talk, q, t, R, S, P, X, a, b, told, d, c, n2, v2, n3, v3, q2, q3, R2, R3, s, p, hF⟩ := hq
  have F := Aside0.mk hF
  have TB : Aside0 (Calls Try.prog 32 #[.slice A0 l0.length c0, .slice A1 l1.length c1] w fun e w' => e = .returned (.bool false) ∧ Aside0 (Below w.heap.size w w')) := ⟨(laws_big.calls A0 c0 l0 A1 c1 l1 false w hr0 hc0 hr1 hc1 hbg).mono fun e w' he => ⟨he.1, ⟨he.2.below⟩⟩⟩
  have TD : Aside0 (∀ W, Below w.heap.size w W → Calls Try.prog 51 #[.slice A0 l0.length c0] W fun e w' => e = .returned (.tuple #[.int .i64 n, .string talk]) ∧ Aside0 (Below W.heap.size W w')) := ⟨fun W hW => (spec_DrawPairsLeft.calls k A0 c0 l0 n talk W (Kd.C_below hr0 hW) hc0 hF.draw).mono fun e w' he => ⟨he.1, ⟨he.2⟩⟩⟩
  have TD2 : Aside0 (∀ W, Below w.heap.size w W → Calls Try.prog 61 #[.slice A1 l1.length c1] W fun e w' => e = .returned (.tuple #[.int .i64 n2, .int .i64 v2]) ∧ Aside0 (Below W.heap.size W w')) := ⟨fun W hW => (spec_DrawPairsOfSum.calls A1 c1 l1 n2 v2 W (Kd.C_below hr1 hW) hc1 hF.d2).mono fun e w' he => ⟨he.1, ⟨he.2⟩⟩⟩
  have TD3 : Aside0 (∀ W, Below w.heap.size w W → Calls Try.prog 64 #[.slice A1 l1.length c1] W fun e w' => e = .returned (.tuple #[.int .i64 n3, .int .i64 v3]) ∧ Aside0 (Below W.heap.size W w')) := ⟨fun W hW => (spec_DrawPairsOfProduct.calls A1 c1 l1 n3 v3 W (Kd.C_below hr1 hW) hc1 hF.d3).mono fun e w' he => ⟨he.1, ⟨he.2⟩⟩⟩
  have TD4 : Aside0 (∀ W, Below w.heap.size w W → Calls Try.prog 67 #[.slice A1 l1.length c1] W fun e w' => e = .returned (.string s) ∧ Aside0 (Below W.heap.size W w')) := ⟨fun W hW => (spec_DrawIsTalk.calls k A1 c1 l1 s W (Kd.C_below hr1 hW) hc1 hF.d4).mono fun e w' he => ⟨he.1, ⟨he.2⟩⟩⟩
  have T14 : Aside0 (∀ W, Calls Try.prog 14 #[.int .i64 n, .string talk] W fun e w' => ∃ A c, e = .returned (.tuple #[.slice A R.length c, .bool q]) ∧ Aside0 (laws_FnTalksLeave.RR w' A c R ∧ Below W.heap.size W w')) := ⟨fun W => (impl_PairsLeft.calls n talk R q W hF.iL).mono fun e w' he => by
    obtain ⟨v, rfl, h1, h2⟩ := he
    obtain ⟨A, c, rfl, h3, h4⟩ := Kd.S_reads h1
    exact ⟨A, c, rfl, ⟨⟨h3, h4⟩, h2⟩⟩⟩
  have T13 : Aside0 (∀ W, Calls Try.prog 13 #[.int .i64 n, .string talk] W fun e w' => ∃ A c, e = .returned (.tuple #[.slice A R.length c, .bool q]) ∧ Aside0 (laws_FnTalksLeave.RR w' A c R ∧ Below W.heap.size W w')) := ⟨fun W => (spec_PairsLeft.calls k n talk R q W hF.sL).mono fun e w' he => by
    obtain ⟨v, rfl, h1, h2⟩ := he
    obtain ⟨A, c, rfl, h3, h4⟩ := Kd.S_reads h1
    exact ⟨A, c, rfl, ⟨⟨h3, h4⟩, h2⟩⟩⟩
  have T29 : Aside0 (∀ W, Calls Try.prog 29 #[.int .i64 n, .string talk] W fun e w' => ∃ A c, e = .returned (.tuple #[.slice A S.length c, .bool q]) ∧ Aside0 (laws_FnTalksLeave.RI w' A c S ∧ Below W.heap.size W w')) := ⟨fun W => (impl_SumsAlone.calls n talk S q W hF.iS).mono fun e w' he => by
    obtain ⟨v, rfl, h1, h2⟩ := he
    obtain ⟨A, c, rfl, h3, h4⟩ := Kd.R_reads h1
    exact ⟨A, c, rfl, ⟨⟨h3, h4⟩, h2⟩⟩⟩
  have T28 : Aside0 (∀ W, Calls Try.prog 28 #[.int .i64 n, .string talk] W fun e w' => ∃ A c, e = .returned (.tuple #[.slice A S.length c, .bool q]) ∧ Aside0 (laws_FnTalksLeave.RI w' A c S ∧ Below W.heap.size W w')) := ⟨fun W => (spec_SumsAlone.calls k n talk S q W hF.sS).mono fun e w' he => by
    obtain ⟨v, rfl, h1, h2⟩ := he
    obtain ⟨A, c, rfl, h3, h4⟩ := Kd.R_reads h1
    exact ⟨A, c, rfl, ⟨⟨h3, h4⟩, h2⟩⟩⟩
  have T31 : Aside0 (∀ W, Calls Try.prog 31 #[.int .i64 n, .string talk] W fun e w' => ∃ A c, e = .returned (.tuple #[.slice A P.length c, .bool q]) ∧ Aside0 (laws_FnTalksLeave.RI w' A c P ∧ Below W.heap.size W w')) := ⟨fun W => (impl_ProductsAlone.calls n talk P q W hF.iP).mono fun e w' he => by
    obtain ⟨v, rfl, h1, h2⟩ := he
    obtain ⟨A, c, rfl, h3, h4⟩ := Kd.R_reads h1
    exact ⟨A, c, rfl, ⟨⟨h3, h4⟩, h2⟩⟩⟩
  have T30 : Aside0 (∀ W, Calls Try.prog 30 #[.int .i64 n, .string talk] W fun e w' => ∃ A c, e = .returned (.tuple #[.slice A P.length c, .bool q]) ∧ Aside0 (laws_FnTalksLeave.RI w' A c P ∧ Below W.heap.size W w')) := ⟨fun W => (spec_ProductsAlone.calls k n talk P q W hF.sP).mono fun e w' he => by
    obtain ⟨v, rfl, h1, h2⟩ := he
    obtain ⟨A, c, rfl, h3, h4⟩ := Kd.R_reads h1
    exact ⟨A, c, rfl, ⟨⟨h3, h4⟩, h2⟩⟩⟩
  have T19 : Aside0 (∀ W, Calls Try.prog 19 #[.int .i64 n, .string talk] W fun e w' => ∃ A c, e = .returned (.tuple #[.slice A X.length c, .bool q]) ∧ Aside0 (laws_FnTalksLeave.RS w' A c X ∧ Below W.heap.size W w')) := ⟨fun W => (impl_NextStatements.calls n talk X q W hF.iN).mono fun e w' he => by
    obtain ⟨v, rfl, h1, h2⟩ := he
    obtain ⟨A, c, rfl, h3, h4⟩ := Kd.R_reads h1
    exact ⟨A, c, rfl, ⟨⟨h3, h4⟩, h2⟩⟩⟩
  have T18 : Aside0 (∀ W, Calls Try.prog 18 #[.int .i64 n, .string talk] W fun e w' => ∃ A c, e = .returned (.tuple #[.slice A X.length c, .bool q]) ∧ Aside0 (laws_FnTalksLeave.RS w' A c X ∧ Below W.heap.size W w')) := ⟨fun W => (spec_NextStatements.calls k n talk X q W hF.sN).mono fun e w' he => by
    obtain ⟨v, rfl, h1, h2⟩ := he
    obtain ⟨A, c, rfl, h3, h4⟩ := Kd.R_reads h1
    exact ⟨A, c, rfl, ⟨⟨h3, h4⟩, h2⟩⟩⟩
  have T52 : Aside0 (∀ W, Calls Try.prog 52 #[.int .i64 n, .string talk] W fun e w' => e = .returned (.tuple #[.int .i64 (R.length : Int), .bool q]) ∧ Aside0 (Below W.heap.size W w')) := ⟨fun W => (impl_CountLeft.calls n talk _ q W hF.iC).mono fun e w' he => ⟨he.1, ⟨he.2⟩⟩⟩
  have T53 : Aside0 (∀ W, Calls Try.prog 53 #[.int .i64 n, .string talk] W fun e w' => e = .returned (.tuple #[.int .i64 (R.length : Int), .bool q]) ∧ Aside0 (Below W.heap.size W w')) := ⟨fun W => (spec_CountLeft.calls k n talk _ q W hF.sC).mono fun e w' he => ⟨he.1, ⟨he.2⟩⟩⟩
  have T54 : Aside0 (∀ W, Calls Try.prog 54 #[.int .i64 n, .string talk] W fun e w' => e = .returned (.tuple #[.int .i64 a, .int .i64 b, .bool t]) ∧ Aside0 (Below W.heap.size W w')) := ⟨fun W => (impl_FirstLeft.calls n talk a b t W hF.iF).mono fun e w' he => ⟨he.1, ⟨he.2⟩⟩⟩
  have T55 : Aside0 (∀ W, Calls Try.prog 55 #[.int .i64 n, .string talk] W fun e w' => e = .returned (.tuple #[.int .i64 a, .int .i64 b, .bool t]) ∧ Aside0 (Below W.heap.size W w')) := ⟨fun W => (spec_FirstLeft.calls k n talk a b t W hF.sF).mono fun e w' he => ⟨he.1, ⟨he.2⟩⟩⟩
  have T56 : Aside0 (∀ W, Calls Try.prog 56 #[.int .i64 n, .string talk] W fun e w' => e = .returned (.tuple #[.bool told, .bool q]) ∧ Aside0 (Below W.heap.size W w')) := ⟨fun W => (impl_IsToldByTalk.calls n talk told q W hF.iT).mono fun e w' he => ⟨he.1, ⟨he.2⟩⟩⟩
  have T57 : Aside0 (∀ W, Calls Try.prog 57 #[.int .i64 n, .string talk] W fun e w' => e = .returned (.tuple #[.bool told, .bool q]) ∧ Aside0 (Below W.heap.size W w')) := ⟨fun W => (spec_IsToldByTalk.calls k n talk told q W hF.sT).mono fun e w' he => ⟨he.1, ⟨he.2⟩⟩⟩
  have T58 : Aside0 (∀ W A c A' c', laws_FnTalksLeave.RR W A c R → laws_FnTalksLeave.RR W A' c' R → Calls Try.prog 58 #[.slice A R.length c, .slice A' R.length c'] W fun e w' => e = .returned (.bool true) ∧ Aside0 (Below W.heap.size W w')) := ⟨fun W A c A' c' h1 h2 => (laws_gRows.calls k A c R A' c' R true W h1.rd h1.len h2.rd h2.len hF.gR).mono fun e w' he => ⟨he.1, ⟨he.2.below⟩⟩⟩
  have T48S : Aside0 (∀ W A c A' c', laws_FnTalksLeave.RI W A c S → laws_FnTalksLeave.RI W A' c' S → Calls Try.prog 48 #[.slice A S.length c, .slice A' S.length c'] W fun e w' => e = .returned (.bool true) ∧ Aside0 (Below W.heap.size W w')) := ⟨fun W A c A' c' h1 h2 => (laws_gSame.calls k A c S A' c' S true W h1.rd h1.len h2.rd h2.len hF.gS).mono fun e w' he => ⟨he.1, ⟨he.2.below⟩⟩⟩
  have T48P : Aside0 (∀ W A c A' c', laws_FnTalksLeave.RI W A c P → laws_FnTalksLeave.RI W A' c' P → Calls Try.prog 48 #[.slice A P.length c, .slice A' P.length c'] W fun e w' => e = .returned (.bool true) ∧ Aside0 (Below W.heap.size W w')) := ⟨fun W A c A' c' h1 h2 => (laws_gSame.calls k A c P A' c' P true W h1.rd h1.len h2.rd h2.len hF.gP).mono fun e w' he => ⟨he.1, ⟨he.2.below⟩⟩⟩
  have T59 : Aside0 (∀ W A c A' c', laws_FnTalksLeave.RS W A c X → laws_FnTalksLeave.RS W A' c' X → Calls Try.prog 59 #[.slice A X.length c, .slice A' X.length c'] W fun e w' => e = .returned (.bool true) ∧ Aside0 (Below W.heap.size W w')) := ⟨fun W A c A' c' h1 h2 => (laws_gTexts.calls k A c X A' c' X true W h1.rd h1.len h2.rd h2.len hF.gX).mono fun e w' he => ⟨he.1, ⟨he.2.below⟩⟩⟩
  have T60 : Aside0 (∀ W A c, laws_FnTalksLeave.RR W A c R → Calls Try.prog 60 #[.slice A R.length c] W fun e w' => e = .returned (.bool true) ∧ Aside0 (Below W.heap.size W w')) := ⟨fun W A c h1 => (laws_gPairs.calls k A c R true W h1.rd h1.len hF.pR).mono fun e w' he => ⟨he.1, ⟨he.2.below⟩⟩⟩
  have T49S : Aside0 (∀ W A c, laws_FnTalksLeave.RI W A c S → Calls Try.prog 49 #[.slice A S.length c] W fun e w' => e = .returned (.bool true) ∧ Aside0 (Below W.heap.size W w')) := ⟨fun W A c h1 => (laws_gRises.calls k A c S true W h1.rd h1.len hF.uS).mono fun e w' he => ⟨he.1, ⟨he.2.below⟩⟩⟩
  have T49P : Aside0 (∀ W A c, laws_FnTalksLeave.RI W A c P → Calls Try.prog 49 #[.slice A P.length c] W fun e w' => e = .returned (.bool true) ∧ Aside0 (Below W.heap.size W w')) := ⟨fun W A c h1 => (laws_gRises.calls k A c P true W h1.rd h1.len hF.uP).mono fun e w' he => ⟨he.1, ⟨he.2.below⟩⟩⟩
  have T62 : Aside0 (∀ W, Calls Try.prog 62 #[.int .i64 n2, .int .i64 v2] W fun e w' => ∃ A c, e = .returned (.tuple #[.slice A R2.length c, .bool q2]) ∧ Aside0 (laws_FnTalksLeave.RR w' A c R2 ∧ Below W.heap.size W w')) := ⟨fun W => (impl_PairsOfSum.calls n2 v2 R2 q2 W hF.i2).mono fun e w' he => by
    obtain ⟨v, rfl, h1, h2⟩ := he
    obtain ⟨A, c, rfl, h3, h4⟩ := Kd.S_reads h1
    exact ⟨A, c, rfl, ⟨⟨h3, h4⟩, h2⟩⟩⟩
  have T63 : Aside0 (∀ W, Calls Try.prog 63 #[.int .i64 n2, .int .i64 v2] W fun e w' => ∃ A c, e = .returned (.tuple #[.slice A R2.length c, .bool q2]) ∧ Aside0 (laws_FnTalksLeave.RR w' A c R2 ∧ Below W.heap.size W w')) := ⟨fun W => (spec_PairsOfSum.calls n2 v2 R2 q2 W hF.s2).mono fun e w' he => by
    obtain ⟨v, rfl, h1, h2⟩ := he
    obtain ⟨A, c, rfl, h3, h4⟩ := Kd.S_reads h1
    exact ⟨A, c, rfl, ⟨⟨h3, h4⟩, h2⟩⟩⟩
  have T65 : Aside0 (∀ W, Calls Try.prog 65 #[.int .i64 n3, .int .i64 v3] W fun e w' => ∃ A c, e = .returned (.tuple #[.slice A R3.length c, .bool q3]) ∧ Aside0 (laws_FnTalksLeave.RR w' A c R3 ∧ Below W.heap.size W w')) := ⟨fun W => (impl_PairsOfProduct.calls n3 v3 R3 q3 W hF.i3).mono fun e w' he => by
    obtain ⟨v, rfl, h1, h2⟩ := he
    obtain ⟨A, c, rfl, h3, h4⟩ := Kd.S_reads h1
    exact ⟨A, c, rfl, ⟨⟨h3, h4⟩, h2⟩⟩⟩
  have T66 : Aside0 (∀ W, Calls Try.prog 66 #[.int .i64 n3, .int .i64 v3] W fun e w' => ∃ A c, e = .returned (.tuple #[.slice A R3.length c, .bool q3]) ∧ Aside0 (laws_FnTalksLeave.RR w' A c R3 ∧ Below W.heap.size W w')) := ⟨fun W => (spec_PairsOfProduct.calls n3 v3 R3 q3 W hF.s3).mono fun e w' he => by
    obtain ⟨v, rfl, h1, h2⟩ := he
    obtain ⟨A, c, rfl, h3, h4⟩ := Kd.S_reads h1
    exact ⟨A, c, rfl, ⟨⟨h3, h4⟩, h2⟩⟩⟩
  have T40s : Aside0 (∀ W, Calls Try.prog 40 #[.string s] W fun e w' => e = .returned (.bool p) ∧ Aside0 (Below W.heap.size W w')) := ⟨fun W => (impl_IsTalk.calls s p W hF.i4).mono fun e w' he => ⟨he.1, ⟨he.2⟩⟩⟩
  have T68 : Aside0 (∀ W, Calls Try.prog 68 #[.string s] W fun e w' => e = .returned (.bool p) ∧ Aside0 (Below W.heap.size W w')) := ⟨fun W => (spec_IsTalk.calls k s p W hF.s4).mono fun e w' he => ⟨he.1, ⟨he.2.below⟩⟩⟩
  have T58a : Aside0 (∀ W A c A' c', laws_FnTalksLeave.RR W A c R2 → laws_FnTalksLeave.RR W A' c' R2 → Calls Try.prog 58 #[.slice A R2.length c, .slice A' R2.length c'] W fun e w' => e = .returned (.bool true) ∧ Aside0 (Below W.heap.size W w')) := ⟨fun W A c A' c' h1 h2 => (laws_gRows.calls k A c R2 A' c' R2 true W h1.rd h1.len h2.rd h2.len hF.g2).mono fun e w' he => ⟨he.1, ⟨he.2.below⟩⟩⟩
  have T58b : Aside0 (∀ W A c A' c', laws_FnTalksLeave.RR W A c R3 → laws_FnTalksLeave.RR W A' c' R3 → Calls Try.prog 58 #[.slice A R3.length c, .slice A' R3.length c'] W fun e w' => e = .returned (.bool true) ∧ Aside0 (Below W.heap.size W w')) := ⟨fun W A c A' c' h1 h2 => (laws_gRows.calls k A c R3 A' c' R3 true W h1.rd h1.len h2.rd h2.len hF.g3).mono fun e w' he => ⟨he.1, ⟨he.2.below⟩⟩⟩
  have T60a : Aside0 (∀ W A c, laws_FnTalksLeave.RR W A c R2 → Calls Try.prog 60 #[.slice A R2.length c] W fun e w' => e = .returned (.bool true) ∧ Aside0 (Below W.heap.size W w')) := ⟨fun W A c h1 => (laws_gPairs.calls k A c R2 true W h1.rd h1.len hF.p2).mono fun e w' he => ⟨he.1, ⟨he.2.below⟩⟩⟩
  have T60b : Aside0 (∀ W A c, laws_FnTalksLeave.RR W A c R3 → Calls Try.prog 60 #[.slice A R3.length c] W fun e w' => e = .returned (.bool true) ∧ Aside0 (Below W.heap.size W w')) := ⟨fun W A c h1 => (laws_gPairs.calls k A c R3 true W h1.rd h1.len hF.p3).mono fun e w' he => ⟨he.1, ⟨he.2.below⟩⟩⟩
  clear h hb hr0 hc0 hr1 hc1 hbg hF
  go_enter Try.func10, Try.ntmps10
  go_upto_region 18 with (first
    | (go_at_call 32; (with_reducible refine (TB.out).mono ?_); rintro e wz1 ⟨rfl, hz1⟩; have HB := Aside0.mk hz1.out; clear hz1 TB)
    | (go_at_call 51; (with_reducible refine (TD.out _ HB.out).mono ?_); rintro e wz2 ⟨rfl, hz2⟩; replace HB := Aside0.mk (below_step HB.out hz2.out); clear hz2 TD)
    | (go_at_call 14; (with_reducible refine (T14.out _).mono ?_); rintro e wz3 ⟨A7, c7, rfl, hz3⟩; replace HB := Aside0.mk (below_step HB.out hz3.out.2); have C7 := Aside0.mk hz3.out.1; clear hz3 T14)
    | (go_at_call 13; (with_reducible refine (T13.out _).mono ?_); rintro e wz4 ⟨A9, c9, rfl, hz4⟩; replace HB := Aside0.mk (below_step HB.out hz4.out.2); replace C7 := Aside0.mk (C7.out.below hz4.out.2); have C9 := Aside0.mk hz4.out.1; clear hz4 T13)
    | (go_at_call 52; (with_reducible refine (T52.out _).mono ?_); rintro e wz5 ⟨rfl, hz5⟩; replace HB := Aside0.mk (below_step HB.out hz5.out); replace C7 := Aside0.mk (C7.out.below hz5.out); replace C9 := Aside0.mk (C9.out.below hz5.out); clear hz5 T52)
    | (go_at_call 53; (with_reducible refine (T53.out _).mono ?_); rintro e wz6 ⟨rfl, hz6⟩; replace HB := Aside0.mk (below_step HB.out hz6.out); replace C7 := Aside0.mk (C7.out.below hz6.out); replace C9 := Aside0.mk (C9.out.below hz6.out); clear hz6 T53)
    | (go_at_call 54; (with_reducible refine (T54.out _).mono ?_); rintro e wz7 ⟨rfl, hz7⟩; replace HB := Aside0.mk (below_step HB.out hz7.out); replace C7 := Aside0.mk (C7.out.below hz7.out); replace C9 := Aside0.mk (C9.out.below hz7.out); clear hz7 T54)
    | (go_at_call 55; (with_reducible refine (T55.out _).mono ?_); rintro e wz8 ⟨rfl, hz8⟩; replace HB := Aside0.mk (below_step HB.out hz8.out); replace C7 := Aside0.mk (C7.out.below hz8.out); replace C9 := Aside0.mk (C9.out.below hz8.out); clear hz8 T55)
    | (go_at_call 29; (with_reducible refine (T29.out _).mono ?_); rintro e wz9 ⟨A21, c21, rfl, hz9⟩; replace HB := Aside0.mk (below_step HB.out hz9.out.2); replace C7 := Aside0.mk (C7.out.below hz9.out.2); replace C9 := Aside0.mk (C9.out.below hz9.out.2); have C21 := Aside0.mk hz9.out.1; clear hz9 T29)
    | (go_at_call 28; (with_reducible refine (T28.out _).mono ?_); rintro e wz10 ⟨A23, c23, rfl, hz10⟩; replace HB := Aside0.mk (below_step HB.out hz10.out.2); replace C7 := Aside0.mk (C7.out.below hz10.out.2); replace C9 := Aside0.mk (C9.out.below hz10.out.2); replace C21 := Aside0.mk (C21.out.below hz10.out.2); have C23 := Aside0.mk hz10.out.1; clear hz10 T28)
    | (go_at_call 31; (with_reducible refine (T31.out _).mono ?_); rintro e wz11 ⟨A25, c25, rfl, hz11⟩; replace HB := Aside0.mk (below_step HB.out hz11.out.2); replace C7 := Aside0.mk (C7.out.below hz11.out.2); replace C9 := Aside0.mk (C9.out.below hz11.out.2); replace C21 := Aside0.mk (C21.out.below hz11.out.2); replace C23 := Aside0.mk (C23.out.below hz11.out.2); have C25 := Aside0.mk hz11.out.1; clear hz11 T31)
    | (go_at_call 30; (with_reducible refine (T30.out _).mono ?_); rintro e wz12 ⟨A27, c27, rfl, hz12⟩; replace HB := Aside0.mk (below_step HB.out hz12.out.2); replace C7 := Aside0.mk (C7.out.below hz12.out.2); replace C9 := Aside0.mk (C9.out.below hz12.out.2); replace C21 := Aside0.mk (C21.out.below hz12.out.2); replace C23 := Aside0.mk (C23.out.below hz12.out.2); replace C25 := Aside0.mk (C25.out.below hz12.out.2); have C27 := Aside0.mk hz12.out.1; clear hz12 T30)
    | (go_at_call 19; (with_reducible refine (T19.out _).mono ?_); rintro e wz13 ⟨A29, c29, rfl, hz13⟩; replace HB := Aside0.mk (below_step HB.out hz13.out.2); replace C7 := Aside0.mk (C7.out.below hz13.out.2); replace C9 := Aside0.mk (C9.out.below hz13.out.2); replace C21 := Aside0.mk (C21.out.below hz13.out.2); replace C23 := Aside0.mk (C23.out.below hz13.out.2); replace C25 := Aside0.mk (C25.out.below hz13.out.2); replace C27 := Aside0.mk (C27.out.below hz13.out.2); have C29 := Aside0.mk hz13.out.1; clear hz13 T19)
    | (go_at_call 18; (with_reducible refine (T18.out _).mono ?_); rintro e wz14 ⟨A31, c31, rfl, hz14⟩; replace HB := Aside0.mk (below_step HB.out hz14.out.2); replace C7 := Aside0.mk (C7.out.below hz14.out.2); replace C9 := Aside0.mk (C9.out.below hz14.out.2); replace C21 := Aside0.mk (C21.out.below hz14.out.2); replace C23 := Aside0.mk (C23.out.below hz14.out.2); replace C25 := Aside0.mk (C25.out.below hz14.out.2); replace C27 := Aside0.mk (C27.out.below hz14.out.2); replace C29 := Aside0.mk (C29.out.below hz14.out.2); have C31 := Aside0.mk hz14.out.1; clear hz14 T18)
    | (go_at_call 56; (with_reducible refine (T56.out _).mono ?_); rintro e wz15 ⟨rfl, hz15⟩; replace HB := Aside0.mk (below_step HB.out hz15.out); replace C7 := Aside0.mk (C7.out.below hz15.out); replace C9 := Aside0.mk (C9.out.below hz15.out); replace C21 := Aside0.mk (C21.out.below hz15.out); replace C23 := Aside0.mk (C23.out.below hz15.out); replace C25 := Aside0.mk (C25.out.below hz15.out); replace C27 := Aside0.mk (C27.out.below hz15.out); replace C29 := Aside0.mk (C29.out.below hz15.out); replace C31 := Aside0.mk (C31.out.below hz15.out); clear hz15 T56)
    | (go_at_call 57; (with_reducible refine (T57.out _).mono ?_); rintro e wz16 ⟨rfl, hz16⟩; replace HB := Aside0.mk (below_step HB.out hz16.out); replace C7 := Aside0.mk (C7.out.below hz16.out); replace C9 := Aside0.mk (C9.out.below hz16.out); replace C21 := Aside0.mk (C21.out.below hz16.out); replace C23 := Aside0.mk (C23.out.below hz16.out); replace C25 := Aside0.mk (C25.out.below hz16.out); replace C27 := Aside0.mk (C27.out.below hz16.out); replace C29 := Aside0.mk (C29.out.below hz16.out); replace C31 := Aside0.mk (C31.out.below hz16.out); clear hz16 T57))
  (try simp only [Act.put, List.setIfInBounds_toArray, List.set_cons_zero, List.set_cons_succ])
  have K := Aside0.mk (show _ from (⟨HB.out, C7.out, C9.out, C21.out, C23.out, C25.out, C27.out, C29.out, C31.out⟩ : laws_FnTalksLeave.Bd w _ A7 A9 A21 A23 A25 A27 A29 A31 c7 c9 c21 c23 c25 c27 c29 c31 R S P X))
  clear HB C7 C9 C21 C23 C25 C27 C29 C31
  go_cut [278] from 1 to 0 (fun v278 wc => v278 = .bool false ∧ Aside0 (laws_FnTalksLeave.Bd w wc A7 A9 A21 A23 A25 A27 A29 A31 c7 c9 c21 c23 c25 c27 c29 c31 R S P X))
  case first =>
   as_aux_lemma =>
    have ht := Aside0.mk F.out.ht
    have hq := Aside0.mk F.out.hq
    have hk := Aside0.mk F.out.iK
    simp only [List.append]
    cases q with
    | false =>
      obtain rfl := hq.out rfl
      clear hk hq ht
      go_wp2_with (first
        | (go_at_call 58; (with_reducible refine (T58.out _ _ _ _ _ K.out.r7 K.out.r9).mono ?_); rintro e wg ⟨rfl, hb⟩; replace K := Aside0.mk (K.out.below hb.out); clear hb)
        | (go_at_call 48; (with_reducible refine (T48S.out _ _ _ _ _ K.out.r21 K.out.r23).mono ?_); rintro e wg ⟨rfl, hb⟩; replace K := Aside0.mk (K.out.below hb.out); clear hb)
        | (go_at_call 48; (with_reducible refine (T48P.out _ _ _ _ _ K.out.r25 K.out.r27).mono ?_); rintro e wg ⟨rfl, hb⟩; replace K := Aside0.mk (K.out.below hb.out); clear hb)
        | (go_at_call 59; (with_reducible refine (T59.out _ _ _ _ _ K.out.r29 K.out.r31).mono ?_); rintro e wg ⟨rfl, hb⟩; replace K := Aside0.mk (K.out.below hb.out); clear hb))
      go_meet
      case rel => exact ⟨rfl, K⟩
    | true =>
      have T40 : Aside0 (∀ W, Calls Try.prog 40 #[.string talk] W fun e w' => e = .returned (.bool true) ∧ Aside0 (Below W.heap.size W w')) := ⟨fun W => (impl_IsTalk.calls talk true W (hk.out rfl)).mono fun e w' he => ⟨he.1, ⟨he.2⟩⟩⟩
      clear hk hq
      cases t with
      | false =>
        have hd0 : decide ((0 : Int) < (R.length : Int)) = false := ht.out
        have hd1 : decide (0 < R.length) = false := decide_eq_false (by have := of_decide_eq_false ht.out; omega)
        clear ht
        go_wp2_with (first
          | (go_at_call 58; (with_reducible refine (T58.out _ _ _ _ _ K.out.r7 K.out.r9).mono ?_); rintro e wg ⟨rfl, hb⟩; replace K := Aside0.mk (K.out.below hb.out); clear hb)
          | (go_at_call 48; (with_reducible refine (T48S.out _ _ _ _ _ K.out.r21 K.out.r23).mono ?_); rintro e wg ⟨rfl, hb⟩; replace K := Aside0.mk (K.out.below hb.out); clear hb)
          | (go_at_call 48; (with_reducible refine (T48P.out _ _ _ _ _ K.out.r25 K.out.r27).mono ?_); rintro e wg ⟨rfl, hb⟩; replace K := Aside0.mk (K.out.below hb.out); clear hb)
          | (go_at_call 59; (with_reducible refine (T59.out _ _ _ _ _ K.out.r29 K.out.r31).mono ?_); rintro e wg ⟨rfl, hb⟩; replace K := Aside0.mk (K.out.below hb.out); clear hb)
          | (go_at_call 40; (with_reducible refine (T40.out _).mono ?_); rintro e wg ⟨rfl, hb⟩; replace K := Aside0.mk (K.out.below hb.out); clear hb))
        go_meet
        case rel => exact ⟨rfl, K⟩
      | true =>
        have hd0 : decide ((0 : Int) < (R.length : Int)) = true := ht.out
        have hd1 : decide (0 < R.length) = true := decide_eq_true (by have := of_decide_eq_true ht.out; omega)
        clear ht
        go_wp2_with (first
          | (go_at_call 58; (with_reducible refine (T58.out _ _ _ _ _ K.out.r7 K.out.r9).mono ?_); rintro e wg ⟨rfl, hb⟩; replace K := Aside0.mk (K.out.below hb.out); clear hb)
          | (go_at_call 48; (with_reducible refine (T48S.out _ _ _ _ _ K.out.r21 K.out.r23).mono ?_); rintro e wg ⟨rfl, hb⟩; replace K := Aside0.mk (K.out.below hb.out); clear hb)
          | (go_at_call 48; (with_reducible refine (T48P.out _ _ _ _ _ K.out.r25 K.out.r27).mono ?_); rintro e wg ⟨rfl, hb⟩; replace K := Aside0.mk (K.out.below hb.out); clear hb)
          | (go_at_call 59; (with_reducible refine (T59.out _ _ _ _ _ K.out.r29 K.out.r31).mono ?_); rintro e wg ⟨rfl, hb⟩; replace K := Aside0.mk (K.out.below hb.out); clear hb)
          | (go_at_call 40; (with_reducible refine (T40.out _).mono ?_); rintro e wg ⟨rfl, hb⟩; replace K := Aside0.mk (K.out.below hb.out); clear hb))
        go_meet
        case rel => exact ⟨rfl, K⟩
  case rest =>
    clear K T58 T48S T48P T59
    obtain ⟨rfl, K⟩ := hcut
    go_upto_if 279 with (fail)
    go_cut [] from 279 to 279 (fun wc => Aside0 (Below w.heap.size w wc))
    case first =>
     as_aux_lemma =>
      clear TD2 TD3 TD4 T62 T63 T65 T66 T40s T68 T58a T58b T60a T60b
      cases q with
      | false =>
        go_wp2
        go_meet
        case rel => exact ⟨K.out.bel⟩
      | true =>
        go_upto_region 21 with (fail)
        go_cut [350] from 1 to 0 (fun v350 wc => v350 = .bool false ∧ Aside0 (laws_FnTalksLeave.Bd w wc A7 A9 A21 A23 A25 A27 A29 A31 c7 c9 c21 c23 c25 c27 c29 c31 R S P X))
        case first =>
         as_aux_lemma =>
          have htl := F.out.tl rfl
          subst htl
          have ht := Aside0.mk F.out.ht
          have lS : ¬ (R.length : Int) < (S.length : Int) := by have := F.out.lS; omega
          have lP : ¬ (R.length : Int) < (P.length : Int) := by have := F.out.lP; omega
          have lS2 : ¬ R.length < S.length := by omega
          have lP2 : ¬ R.length < P.length := by omega
          have H0 := Aside0.mk F.out.r0
          have HE := Aside0.mk (F.out.e0 rfl)
          have HN := Aside0.mk (F.out.n40 rfl)
          simp only [List.append]
          by_cases he : talk.toList = []
          · have he0 : (talk.toList == ([] : List UInt8)) = true := beq_iff_eq.mpr he
            have HL := Aside0.mk (HE.out he)
            clear he HE
            obtain ⟨n1, hn1⟩ : ∃ n1, n1 = n + 1 := ⟨_, rfl⟩
            obtain ⟨m, hm⟩ : ∃ m, m = n * n1 := ⟨_, rfl⟩
            have hmb : 0 ≤ m ∧ m ≤ 1640 := by
              have h1 := HN.out
              have h2 : n * n1 ≤ 40 * 41 := Int.mul_le_mul (by omega) (by omega) (by omega) (by omega)
              have h3 : 0 ≤ n * n1 := Int.mul_nonneg (by omega) (by omega)
              omega
            have hw1 : IntKind.i64.wrap (n + 1) = n1 := by rw [hn1]; exact IntWalk.i64_in _ (by have := HN.out; omega)
            have hw2 : IntKind.i64.wrap (n * n1) = m := by rw [hm]; exact IntWalk.i64_in _ (by omega)
            have hw3 : Int.tdiv m 2 = (R.length : Int) := by rw [HL.out, hm, hn1]
            have hw4 : IntKind.i64.wrap (R.length : Int) = (R.length : Int) := IntWalk.i64_in _ (by have := F.out.lR; omega)
            clear hn1 hm HL hmb
            cases t with
            | true =>
              have hR : (0 : Int) < (R.length : Int) := of_decide_eq_true ht.out
              have hR2 : 0 < R.length := by omega
              clear ht
              go_wp2_with (first
                | (go_at_call 60; (with_reducible refine (T60.out _ _ _ K.out.r7).mono ?_); rintro e wg ⟨rfl, hb⟩; replace K := Aside0.mk (K.out.below hb.out); clear hb; obtain ⟨ad7, a2, c2, e7, h71, h72, h73⟩ := K.out.r7.two 0 hR2 a b (H0.out rfl); subst e7; clear H0; rw [Addr.add_zero'] at h71; have h74 := h73; (try simp only [Nat.reduceMul, Nat.reduceEqDiff, Go.Addr.add, ↓reduceIte] at h74))
                | (go_at_call 49; (with_reducible refine (T49S.out _ _ _ K.out.r21).mono ?_); rintro e wg ⟨rfl, hb⟩; replace K := Aside0.mk (K.out.below hb.out); clear hb)
                | (go_at_call 49; (with_reducible refine (T49P.out _ _ _ K.out.r25).mono ?_); rintro e wg ⟨rfl, hb⟩; replace K := Aside0.mk (K.out.below hb.out); clear hb))
              go_meet
              case rel => exact ⟨rfl, K⟩
            | false =>
              have hR : ¬ (0 : Int) < (R.length : Int) := of_decide_eq_false ht.out
              clear ht H0
              go_wp2_with (first
                | (go_at_call 60; (with_reducible refine (T60.out _ _ _ K.out.r7).mono ?_); rintro e wg ⟨rfl, hb⟩; replace K := Aside0.mk (K.out.below hb.out); clear hb)
                | (go_at_call 49; (with_reducible refine (T49S.out _ _ _ K.out.r21).mono ?_); rintro e wg ⟨rfl, hb⟩; replace K := Aside0.mk (K.out.below hb.out); clear hb)
                | (go_at_call 49; (with_reducible refine (T49P.out _ _ _ K.out.r25).mono ?_); rintro e wg ⟨rfl, hb⟩; replace K := Aside0.mk (K.out.below hb.out); clear hb))
              go_meet
              case rel => exact ⟨rfl, K⟩
          · have he0 : (talk.toList == ([] : List UInt8)) = false := beq_eq_false_iff_ne.mpr he
            clear he HE
            cases t with
            | true =>
              have hR : (0 : Int) < (R.length : Int) := of_decide_eq_true ht.out
              have hR2 : 0 < R.length := by omega
              clear ht
              go_wp2_with (first
                | (go_at_call 60; (with_reducible refine (T60.out _ _ _ K.out.r7).mono ?_); rintro e wg ⟨rfl, hb⟩; replace K := Aside0.mk (K.out.below hb.out); clear hb; obtain ⟨ad7, a2, c2, e7, h71, h72, h73⟩ := K.out.r7.two 0 hR2 a b (H0.out rfl); subst e7; clear H0; rw [Addr.add_zero'] at h71; have h74 := h73; (try simp only [Nat.reduceMul, Nat.reduceEqDiff, Go.Addr.add, ↓reduceIte] at h74))
                | (go_at_call 49; (with_reducible refine (T49S.out _ _ _ K.out.r21).mono ?_); rintro e wg ⟨rfl, hb⟩; replace K := Aside0.mk (K.out.below hb.out); clear hb)
                | (go_at_call 49; (with_reducible refine (T49P.out _ _ _ K.out.r25).mono ?_); rintro e wg ⟨rfl, hb⟩; replace K := Aside0.mk (K.out.below hb.out); clear hb))
              go_meet
              case rel => exact ⟨rfl, K⟩
            | false =>
              have hR : ¬ (0 : Int) < (R.length : Int) := of_decide_eq_false ht.out
              clear ht H0
              go_wp2_with (first
                | (go_at_call 60; (with_reducible refine (T60.out _ _ _ K.out.r7).mono ?_); rintro e wg ⟨rfl, hb⟩; replace K := Aside0.mk (K.out.below hb.out); clear hb)
                | (go_at_call 49; (with_reducible refine (T49S.out _ _ _ K.out.r21).mono ?_); rintro e wg ⟨rfl, hb⟩; replace K := Aside0.mk (K.out.below hb.out); clear hb)
                | (go_at_call 49; (with_reducible refine (T49P.out _ _ _ K.out.r25).mono ?_); rintro e wg ⟨rfl, hb⟩; replace K := Aside0.mk (K.out.below hb.out); clear hb))
              go_meet
              case rel => exact ⟨rfl, K⟩
        case rest =>
         as_aux_lemma =>
          clear K T60 T49S T49P
          obtain ⟨rfl, K⟩ := hcut
          have HROW := Aside0.mk (F.out.row rfl)
          have HALL := Aside0.mk (F.out.all rfl)
          have HN := Aside0.mk (F.out.n40 rfl)
          have hlR : R.length ≤ 2000 := F.out.lR
          go_wp2
          go_loopg [37, 353] R.length (fun gg s37 s353 wr => ∃ (i m : Nat), s37 = .int .i64 (m : Int) ∧ s353 = .int .i64 (i : Int) ∧ i ≤ R.length ∧ R.length - i ≤ gg ∧ m ≤ i ∧ Aside0 (m = (List.range i).countP d) ∧ Aside0 (laws_FnTalksLeave.Bd w wr A7 A9 A21 A23 A25 A27 A29 A31 c7 c9 c21 c23 c25 c27 c29 c31 R S P X))
          case atStart => exact ⟨0, 0, rfl, rfl, Nat.zero_le _, by omega, Nat.le_refl _, ⟨by simp⟩, K⟩
          case round =>
            clear K
            obtain ⟨i, m, rfl, rfl, hi, hgg, hm, HM, K⟩ := hrel
            by_cases hlt : i < R.length
            · have hltz : (i : Int) < (R.length : Int) := by omega
              obtain ⟨x, y, he, hx1, hxy, hyn, hgh, hit⟩ := HROW.out i hlt
              obtain ⟨ad7, a2, c2, e7, h71, h72, h73⟩ := K.out.r7.two i hlt x y he
              subst e7
              have h74 := h73
              (try simp only [Nat.reduceMul, Nat.reduceEqDiff, Go.Addr.add, ↓reduceIte] at h74)
              have hn40 := HN.out.2
              have bx1 : decide (x < 1) = false := decide_eq_false (by omega)
              have bxy : decide (y < x) = false := decide_eq_false (by omega)
              have byn : decide (n < y) = false := decide_eq_false (by omega)
              obtain ⟨z, hz⟩ : ∃ z, z = x + y := ⟨_, rfl⟩
              have hw : IntKind.i64.wrap (x + y) = z := by rw [hz]; exact IntWalk.i64_in _ (by omega)
              rw [← hz] at hgh
              have HV : Aside0 (∀ m0 m, Calls Try.prog 50 #[.slice A21 S.length c21, .int .i64 z] (wr.drewN (m0 + m)) fun e w2 => e = .returned (.bool (d i)) ∧ ∃ j, w2 = wr.drewN (m0 + j)) := ⟨fun m0 m => (laws_gHas.calls k A21 c21 S z (d i) _ (Kd.C_drewN K.out.r21.rd (m0 + m)) K.out.r21.len hgh).mono fun e w' h => ⟨h.1, by obtain ⟨j, hj⟩ := h.2.out; exact ⟨m + j, by rw [hj, World.drewN_drewN, Nat.add_assoc]⟩⟩⟩
              have HI : Aside0 (∀ W, Calls Try.prog 38 #[.int .i64 n, .int .i64 x, .int .i64 y, .string talk] W fun e w' => e = .returned (.tuple #[.bool true, .bool true]) ∧ Aside0 (Below W.heap.size W w')) := ⟨fun W => (impl_IsTrueTalk.calls n x y talk true true W hit).mono fun e w' he => ⟨he.1, ⟨he.2⟩⟩⟩
              have HD : Aside0 ((List.range (i + 1)).countP d = (List.range i).countP d + if d i = true then 1 else 0) := ⟨by rw [List.range_succ, List.countP_append]; simp [List.countP_cons]⟩
              have hmm : (m : Int) ≤ 2000 := by omega
              clear he hgh hit hz hx1 hxy hyn hn40
              generalize d i = di at HV HD
              go_wp2
              go_quiet (fail)
              go_wp2
              go_quiet (first | (go_at_call 50; exact HV.out _ _))
              clear HV
              go_upto_if 385 with (fail)
              go_cut [37] from 1 to 0 (fun v37 wc => ∃ m2 : Nat, v37 = .int .i64 (m2 : Int) ∧ m2 ≤ i + 1 ∧ Aside0 (m2 = (List.range (i + 1)).countP d) ∧ Aside0 (wc.cell? a2 = some (.int .i64 x) ∧ wc.cell? { block := a2.block, off := a2.off + 1 } = some (.int .i64 y)) ∧ Aside0 (laws_FnTalksLeave.Bd w wc (some ad7) A9 A21 A23 A25 A27 A29 A31 c7 c9 c21 c23 c25 c27 c29 c31 R S P X))
              case first =>
               as_aux_lemma =>
                cases di with
                | false =>
                  go_wp2
                  go_meet
                  case rel => exact ⟨m, rfl, by omega, ⟨by rw [HD.out, HM.out]; rfl⟩, ⟨h72, h74⟩, ⟨K.out.below (by first | exact pw_below_drewN (Below.refl _ _) _ | exact pw_below_drewN (pw_below_drewN (Below.refl _ _) _) _)⟩⟩
                | true =>
                  go_wp2
                  go_meet
                  case rel => exact ⟨m + 1, by go_num, by omega, ⟨by rw [HD.out, HM.out]; rfl⟩, ⟨h72, h74⟩, ⟨K.out.below (by first | exact pw_below_drewN (Below.refl _ _) _ | exact pw_below_drewN (pw_below_drewN (Below.refl _ _) _) _)⟩⟩
              case rest =>
               as_aux_lemma =>
                clear K HD HM h71 h72 h73 h74 hmm
                obtain ⟨m2, rfl, hm2, HM, HC, K⟩ := hcut
                have g1 := HC.out.1
                have g2 := HC.out.2
                clear HC
                go_wp2
                go_region_held3 (fun w' => w'.cell? a2 = some (.int .i64 x) ∧ w'.cell? { block := a2.block, off := a2.off + 1 } = some (.int .i64 y)) (first | assumption | go_keep) (first | (go_at_call 38; refine (HI.out _).mono ?_; rintro e w7 ⟨rfl, h7⟩; have q1 : w7.cell? a2 = some (.int .i64 x) := pw_cell_below h7.out (by assumption); have q2 : w7.cell? { block := a2.block, off := a2.off + 1 } = some (.int .i64 y) := pw_cell_below h7.out (by assumption)))
                clear g1 g2
                go_simp
                go_wp2
                go_roundg (R.length - (i + 1))
                case measure => omega
                case rel => exact ⟨i + 1, m2, rfl, by go_num, by omega, Nat.le_refl _, hm2, HM, ⟨K.out.below (by first | exact h7.out | exact below_step (below_drew1 (Below.refl _ _)) h7.out)⟩⟩
            · have hltz : ¬ (i : Int) < (R.length : Int) := by omega
              obtain rfl : i = R.length := by omega
              obtain rfl : m = S.length := by rw [HM.out, HALL.out]
              have hzt : talk.size ≤ 24 := F.out.zt rfl
              have hw : IntKind.i64.wrap ((talk.size : Int) + 2) = (talk.size : Int) + 2 := IntWalk.i64_in _ (by omega)
              clear HM HROW HALL hgg hi hm
              by_cases hz : talk.size + 2 ≤ 24
              · have hz2 : (talk.size : Int) + 2 ≤ 24 := by omega
                have HST := Aside0.mk (F.out.st rfl hz)
                have HS0 := Aside0.mk (F.out.s0 rfl hz)
                clear hz hzt
                go_wp2_with (first | ((with_reducible refine gate_dst (N := 415) rfl ?_); refine Kd.R_lit Kd.string wr.heap.size 9 ?hg (N := 415) ?hd (w0 := wr) (xs := laws_FnTalksLeave.six) (inner := [.string (⟨#[115, 45]⟩ : ByteArray), .string (⟨#[115, 43]⟩ : ByteArray), .string (⟨#[115, 33]⟩ : ByteArray), .string (⟨#[112, 45]⟩ : ByteArray), .string (⟨#[112, 43]⟩ : ByteArray), .string (⟨#[112, 33]⟩ : ByteArray)]) (ok := fun _ => True) (okp := fun _ => True) ?hr ?hp (fun _ hk => hk) trivial (Below.refl _ _) (Nat.le_refl _) (by decide) ?_; (case hd => rfl); (case hg => rfl); (case hr => exact laws_FnTalksLeave.six_run _ _ _ rfl); (case hp => exact (Reps.one (show Kd.M Kd.string _ _ _ (⟨#[115, 45]⟩ : ByteArray) [.string (⟨#[115, 45]⟩ : ByteArray)] from rfl) (Reps.one (show Kd.M Kd.string _ _ _ (⟨#[115, 43]⟩ : ByteArray) [.string (⟨#[115, 43]⟩ : ByteArray)] from rfl) (Reps.one (show Kd.M Kd.string _ _ _ (⟨#[115, 33]⟩ : ByteArray) [.string (⟨#[115, 33]⟩ : ByteArray)] from rfl) (Reps.one (show Kd.M Kd.string _ _ _ (⟨#[112, 45]⟩ : ByteArray) [.string (⟨#[112, 45]⟩ : ByteArray)] from rfl) (Reps.one (show Kd.M Kd.string _ _ _ (⟨#[112, 43]⟩ : ByteArray) [.string (⟨#[112, 43]⟩ : ByteArray)] from rfl) (Reps.one (show Kd.M Kd.string _ _ _ (⟨#[112, 33]⟩ : ByteArray) [.string (⟨#[112, 33]⟩ : ByteArray)] from rfl) (Reps.none _ _)))))))); intro v15 w15 ho hb hg_ hnew_; obtain ⟨A15, c15, e15, hl15, hC15⟩ := Kd.R_reads ho; rw [show laws_FnTalksLeave.six.length = 6 from rfl] at e15; subst e15; have H15 := Aside0.mk (show laws_FnTalksLeave.RS w15 A15 c15 laws_FnTalksLeave.six from ⟨hl15, hC15⟩); have K15 := Aside0.mk (K.out.below hb); clear ho hb hg_ hnew_ hl15 hC15))
                clear K
                go_loopg [417] 6 (fun gg s417 w2 => ∃ j : Nat, s417 = .int .i64 (j : Int) ∧ j ≤ 6 ∧ 6 - j ≤ gg ∧ Aside0 (laws_FnTalksLeave.Bd w w2 A7 A9 A21 A23 A25 A27 A29 A31 c7 c9 c21 c23 c25 c27 c29 c31 R S P X) ∧ Aside0 (laws_FnTalksLeave.RS w2 A15 c15 laws_FnTalksLeave.six))
                case atStart => exact ⟨0, rfl, by omega, by omega, K15, H15⟩
                case round =>
                  clear K15 H15
                  obtain ⟨j, rfl, hj, hgg, K, HC⟩ := hrel
                  by_cases hj6 : j < 6
                  · have hjz : (j : Int) < 6 := by omega
                    obtain ⟨hcl, hcR, hin⟩ := HST.out j hj6
                    obtain ⟨ad15, e15, hcell⟩ := laws_FnTalksLeave.six_cell HC.out j hj6
                    subst e15
                    have hst2 : (Nx.stm j).size = 2 := (Nx.parts j hj6).1
                    have T52j : Aside0 (∀ W, Calls Try.prog 52 #[.int .i64 n, .string (talk ++ Nx.stm j)] W fun e w' => e = .returned (.tuple #[.int .i64 (c j : Int), .bool true]) ∧ Aside0 (Below W.heap.size W w')) := ⟨fun W => (impl_CountLeft.calls n (talk ++ Nx.stm j) _ true W hcl).mono fun e w' he => ⟨he.1, ⟨he.2⟩⟩⟩
                    have hsz : talk.size + (Nx.stm j).size ≤ 9223372036854775807 := by omega
                    have HST2 := Aside0.mk (show ∀ j2 : Nat, j2 = j → Nx.stm j2 = Nx.stm j ∧ c j2 = c j from fun j2 e => by subst e; exact ⟨rfl, rfl⟩)
                    have hcn : (c j : Int) ≤ (R.length : Int) := by omega
                    have hXl : X.length ≤ 6 := F.out.xX
                    have HIN := Aside0.mk hin
                    clear hcl hin hst2 hcR
                    generalize Nx.stm j = st at hcell T52j hsz HST2 HIN
                    generalize hcj : c j = cj at T52j HST2 hcn HIN
                    clear hcj
                    go_wp2_with (go_at_call 52; (with_reducible refine (T52j.out _).mono ?_); rintro e w3 ⟨rfl, h3⟩)
                    have K3 := Aside0.mk (K.out.below h3.out)
                    have HC3 := Aside0.mk (HC.out.below h3.out)
                    clear h3 hcell K HC
                    go_loopg [46, 431] X.length (fun gg s46 s431 w4 => ∃ i : Nat, s46 = .bool ((X.take i).any fun x => x.toList == st.toList) ∧ s431 = .int .i64 (i : Int) ∧ i ≤ X.length ∧ X.length - i ≤ gg ∧ Aside0 (laws_FnTalksLeave.Bd w w4 A7 A9 A21 A23 A25 A27 A29 A31 c7 c9 c21 c23 c25 c27 c29 c31 R S P X) ∧ Aside0 (laws_FnTalksLeave.RS w4 (some ad15) c15 laws_FnTalksLeave.six))
                    case atStart => exact ⟨0, rfl, rfl, Nat.zero_le _, by omega, K3, HC3⟩
                    case round =>
                      clear K3 HC3
                      obtain ⟨i, rfl, rfl, hi, hgg2, K, HC⟩ := hrel
                      by_cases hix : i < X.length
                      · have hixz : (i : Int) < (X.length : Int) := by omega
                        obtain ⟨ad9, e9, hx9⟩ := Kd.at_string K.out.r29.rd (i : Int) (by omega) hixz
                        subst e9
                        rw [Int.toNat_natCast] at hx9
                        have hnx : ((X.take (i + 1)).any fun x => x.toList == st.toList) = (((X.take i).any fun x => x.toList == st.toList) || ((rdOf ByteArray.empty X (i : Int)).toList == st.toList)) := by
                          rw [List.take_succ_eq_append_getElem hix, List.any_append]
                          simp [rdOf, hix]
                        have HNX := Aside0.mk hnx
                        clear hnx
                        generalize rdOf ByteArray.empty X (i : Int) = x at hx9 HNX
                        generalize ((X.take i).any fun x => x.toList == st.toList) = bb at HNX ⊢
                        cases bb with
                        | true =>
                          go_wp2
                          go_roundg (X.length - (i + 1))
                          case measure => omega
                          case rel => exact ⟨i + 1, by rw [HNX.out]; rfl, by go_num, by omega, Nat.le_refl _, K, HC⟩
                        | false =>
                          go_wp2
                          go_roundg (X.length - (i + 1))
                          case measure => omega
                          case rel => exact ⟨i + 1, by rw [HNX.out]; rfl, by go_num, by omega, Nat.le_refl _, K, HC⟩
                      · have hixz : ¬ (i : Int) < (X.length : Int) := by omega
                        obtain rfl : i = X.length := by omega
                        rw [List.take_length]
                        rw [HIN.out]
                        clear HIN hgg2 hi
                        obtain ⟨g, hg⟩ : ∃ g, g = decide ((0 : Int) < (cj : Int)) := ⟨_, rfl⟩
                        rw [← hg]
                        have HG := Aside0.mk hg
                        clear hg
                        go_upto_region 48 with (fail)
                        go_cut [498] from 1 to 0 (fun v498 wc => v498 = .bool false ∧ Aside0 (laws_FnTalksLeave.Bd w wc A7 A9 A21 A23 A25 A27 A29 A31 c7 c9 c21 c23 c25 c27 c29 c31 R S P X) ∧ Aside0 (laws_FnTalksLeave.RS wc (some ad15) c15 laws_FnTalksLeave.six))
                        case first =>
                         as_aux_lemma =>
                          have hcR : ¬ (R.length : Int) < (cj : Int) := by omega
                          have hcR2 : ¬ R.length < cj := by omega
                          (try simp only [List.append])
                          have HSL := Aside0.mk (show S.length ≤ R.length ∧ P.length ≤ R.length ∧ R.length ≤ 2000 from ⟨F.out.lS, F.out.lP, F.out.lR⟩)
                          have hg2 : decide (0 < cj) = g := by rw [HG.out]; simp
                          have hg1 : decide ((0 : Int) < (cj : Int)) = g := HG.out.symm
                          clear HG
                          match j, hj6, HST2 with
                          | 0, _, HST2 =>
                            obtain ⟨e1, e2⟩ := HST2.out 0 rfl
                            have hs0 : (st.toList == ([115, 43] : List UInt8)) = false := by rw [← e1, ByteArray.toList_eq]; decide
                            have hs1 : (st.toList == ([112, 43] : List UInt8)) = false := by rw [← e1, ByteArray.toList_eq]; decide
                            have hs2 : (st.toList == ([115, 45] : List UInt8)) = true := by rw [← e1, ByteArray.toList_eq]; decide
                            have hs3 : (st.toList == ([112, 45] : List UInt8)) = false := by rw [← e1, ByteArray.toList_eq]; decide
                            have e3 := HS0.out.2.2.1
                            rw [e2] at e3
                            have hw : IntKind.i64.wrap ((R.length : Int) - (S.length : Int)) = (cj : Int) := by rw [← e3]; exact IntWalk.i64_in _ (by have := HSL.out; omega)
                            clear e3
                            clear e1 e2 HST2
                            go_wp2
                            go_meet
                            case rel => exact ⟨rfl, K, HC⟩
                          | 1, _, HST2 =>
                            obtain ⟨e1, e2⟩ := HST2.out 1 rfl
                            have hs0 : (st.toList == ([115, 43] : List UInt8)) = true := by rw [← e1, ByteArray.toList_eq]; decide
                            have hs1 : (st.toList == ([112, 43] : List UInt8)) = false := by rw [← e1, ByteArray.toList_eq]; decide
                            have hs2 : (st.toList == ([115, 45] : List UInt8)) = false := by rw [← e1, ByteArray.toList_eq]; decide
                            have hs3 : (st.toList == ([112, 45] : List UInt8)) = false := by rw [← e1, ByteArray.toList_eq]; decide
                            have e3 := HS0.out.1
                            rw [e2] at e3
                            obtain rfl : cj = S.length := by omega
                            clear e1 e2 HST2
                            go_wp2
                            go_meet
                            case rel => exact ⟨rfl, K, HC⟩
                          | 2, _, HST2 =>
                            obtain ⟨e1, e2⟩ := HST2.out 2 rfl
                            have hs0 : (st.toList == ([115, 43] : List UInt8)) = false := by rw [← e1, ByteArray.toList_eq]; decide
                            have hs1 : (st.toList == ([112, 43] : List UInt8)) = false := by rw [← e1, ByteArray.toList_eq]; decide
                            have hs2 : (st.toList == ([115, 45] : List UInt8)) = false := by rw [← e1, ByteArray.toList_eq]; decide
                            have hs3 : (st.toList == ([112, 45] : List UInt8)) = false := by rw [← e1, ByteArray.toList_eq]; decide
                            clear e1 e2 HST2
                            go_wp2
                            go_meet
                            case rel => exact ⟨rfl, K, HC⟩
                          | 3, _, HST2 =>
                            obtain ⟨e1, e2⟩ := HST2.out 3 rfl
                            have hs0 : (st.toList == ([115, 43] : List UInt8)) = false := by rw [← e1, ByteArray.toList_eq]; decide
                            have hs1 : (st.toList == ([112, 43] : List UInt8)) = false := by rw [← e1, ByteArray.toList_eq]; decide
                            have hs2 : (st.toList == ([115, 45] : List UInt8)) = false := by rw [← e1, ByteArray.toList_eq]; decide
                            have hs3 : (st.toList == ([112, 45] : List UInt8)) = true := by rw [← e1, ByteArray.toList_eq]; decide
                            have e3 := HS0.out.2.2.2
                            rw [e2] at e3
                            have hw : IntKind.i64.wrap ((R.length : Int) - (P.length : Int)) = (cj : Int) := by rw [← e3]; exact IntWalk.i64_in _ (by have := HSL.out; omega)
                            clear e3
                            clear e1 e2 HST2
                            go_wp2
                            go_meet
                            case rel => exact ⟨rfl, K, HC⟩
                          | 4, _, HST2 =>
                            obtain ⟨e1, e2⟩ := HST2.out 4 rfl
                            have hs0 : (st.toList == ([115, 43] : List UInt8)) = false := by rw [← e1, ByteArray.toList_eq]; decide
                            have hs1 : (st.toList == ([112, 43] : List UInt8)) = true := by rw [← e1, ByteArray.toList_eq]; decide
                            have hs2 : (st.toList == ([115, 45] : List UInt8)) = false := by rw [← e1, ByteArray.toList_eq]; decide
                            have hs3 : (st.toList == ([112, 45] : List UInt8)) = false := by rw [← e1, ByteArray.toList_eq]; decide
                            have e3 := HS0.out.2.1
                            rw [e2] at e3
                            obtain rfl : cj = P.length := by omega
                            clear e1 e2 HST2
                            go_wp2
                            go_meet
                            case rel => exact ⟨rfl, K, HC⟩
                          | 5, _, HST2 =>
                            obtain ⟨e1, e2⟩ := HST2.out 5 rfl
                            have hs0 : (st.toList == ([115, 43] : List UInt8)) = false := by rw [← e1, ByteArray.toList_eq]; decide
                            have hs1 : (st.toList == ([112, 43] : List UInt8)) = false := by rw [← e1, ByteArray.toList_eq]; decide
                            have hs2 : (st.toList == ([115, 45] : List UInt8)) = false := by rw [← e1, ByteArray.toList_eq]; decide
                            have hs3 : (st.toList == ([112, 45] : List UInt8)) = false := by rw [← e1, ByteArray.toList_eq]; decide
                            clear e1 e2 HST2
                            go_wp2
                            go_meet
                            case rel => exact ⟨rfl, K, HC⟩
                        case rest =>
                          clear K HC HST2 HG
                          obtain ⟨rfl, K, HC⟩ := hcut
                          go_wp2
                          go_roundg (6 - (j + 1))
                          case measure => omega
                          case rel => exact ⟨j + 1, by go_num, by omega, Nat.le_refl _, K, HC⟩
                  · have hjz : ¬ (j : Int) < 6 := by omega
                    go_wp2
                    go_meet
                    case rel => exact ⟨K.out.bel⟩
              · have hz2 : ¬ (talk.size : Int) + 2 ≤ 24 := by omega
                clear hz hzt
                go_wp2
                go_meet
                case rel => exact ⟨K.out.bel⟩
    case rest =>
     as_aux_lemma =>
      (try clear K T60 T49S T49P)
      have HB := hcut
      clear hcut
      go_upto_region 58 with (first
        | (go_at_call 61; (with_reducible refine (TD2.out _ HB.out).mono ?_); rintro e wz101 ⟨rfl, hz101⟩; replace HB := Aside0.mk (below_step HB.out hz101.out); clear hz101 TD2)
        | (go_at_call 62; (with_reducible refine (T62.out _).mono ?_); rintro e wz102 ⟨A51, c51, rfl, hz102⟩; replace HB := Aside0.mk (below_step HB.out hz102.out.2); have C51 := Aside0.mk hz102.out.1; clear hz102 T62)
        | (go_at_call 63; (with_reducible refine (T63.out _).mono ?_); rintro e wz103 ⟨A53, c53, rfl, hz103⟩; replace HB := Aside0.mk (below_step HB.out hz103.out.2); replace C51 := Aside0.mk (C51.out.below hz103.out.2); have C53 := Aside0.mk hz103.out.1; clear hz103 T63)
        | (go_at_call 64; (with_reducible refine (TD3.out _ HB.out).mono ?_); rintro e wz104 ⟨rfl, hz104⟩; replace HB := Aside0.mk (below_step HB.out hz104.out); replace C51 := Aside0.mk (C51.out.below hz104.out); replace C53 := Aside0.mk (C53.out.below hz104.out); clear hz104 TD3)
        | (go_at_call 65; (with_reducible refine (T65.out _).mono ?_); rintro e wz105 ⟨A57, c57, rfl, hz105⟩; replace HB := Aside0.mk (below_step HB.out hz105.out.2); replace C51 := Aside0.mk (C51.out.below hz105.out.2); replace C53 := Aside0.mk (C53.out.below hz105.out.2); have C57 := Aside0.mk hz105.out.1; clear hz105 T65)
        | (go_at_call 66; (with_reducible refine (T66.out _).mono ?_); rintro e wz106 ⟨A59, c59, rfl, hz106⟩; replace HB := Aside0.mk (below_step HB.out hz106.out.2); replace C51 := Aside0.mk (C51.out.below hz106.out.2); replace C53 := Aside0.mk (C53.out.below hz106.out.2); replace C57 := Aside0.mk (C57.out.below hz106.out.2); have C59 := Aside0.mk hz106.out.1; clear hz106 T66)
        | (go_at_call 67; (with_reducible refine (TD4.out _ HB.out).mono ?_); rintro e wz107 ⟨rfl, hz107⟩; replace HB := Aside0.mk (below_step HB.out hz107.out); replace C51 := Aside0.mk (C51.out.below hz107.out); replace C53 := Aside0.mk (C53.out.below hz107.out); replace C57 := Aside0.mk (C57.out.below hz107.out); replace C59 := Aside0.mk (C59.out.below hz107.out); clear hz107 TD4))
      (try simp only [Act.put, List.setIfInBounds_toArray, List.set_cons_zero, List.set_cons_succ])
      have K := Aside0.mk (show _ from (⟨HB.out, C51.out, C53.out, C57.out, C59.out⟩ : laws_FnTalksLeave.Bd2 w _ A51 A53 A57 A59 c51 c53 c57 c59 R2 R3))
      clear HB C51 C53 C57 C59
      go_cut [572] from 1 to 0 (fun v572 wc => v572 = .bool false ∧ Aside0 (laws_FnTalksLeave.Bd2 w wc A51 A53 A57 A59 c51 c53 c57 c59 R2 R3))
      case first =>
       as_aux_lemma =>
        (try simp only [List.append])
        go_wp2_with (first
          | (go_at_call 58; (with_reducible refine (T58a.out _ _ _ _ _ K.out.r51 K.out.r53).mono ?_); rintro e wg ⟨rfl, hb⟩; replace K := Aside0.mk (K.out.below hb.out); clear hb)
          | (go_at_call 58; (with_reducible refine (T58b.out _ _ _ _ _ K.out.r57 K.out.r59).mono ?_); rintro e wg ⟨rfl, hb⟩; replace K := Aside0.mk (K.out.below hb.out); clear hb)
          | (go_at_call 40; (with_reducible refine (T40s.out _).mono ?_); rintro e wg ⟨rfl, hb⟩; replace K := Aside0.mk (K.out.below hb.out); clear hb)
          | (go_at_call 68; (with_reducible refine (T68.out _).mono ?_); rintro e wg ⟨rfl, hb⟩; replace K := Aside0.mk (K.out.below hb.out); clear hb)
          | (go_at_call 60; (with_reducible refine (T60a.out _ _ _ K.out.r51).mono ?_); rintro e wg ⟨rfl, hb⟩; replace K := Aside0.mk (K.out.below hb.out); clear hb)
          | (go_at_call 60; (with_reducible refine (T60b.out _ _ _ K.out.r57).mono ?_); rintro e wg ⟨rfl, hb⟩; replace K := Aside0.mk (K.out.below hb.out); clear hb))
        go_meet
        case rel => exact ⟨rfl, K⟩
      case rest =>
       as_aux_lemma =>
        clear K T58a T58b T40s T68 T60a T60b
        obtain ⟨rfl, K⟩ := hcut
        have hl2 : R2.length ≤ 2000 := F.out.l2
        have hl3 : R3.length ≤ 2000 := F.out.l3
        go_wp2
        go_loopg [575] R2.length (fun gg s575 wr => ∃ i : Nat, s575 = .int .i64 (i : Int) ∧ i ≤ R2.length ∧ R2.length - i ≤ gg ∧ Aside0 (laws_FnTalksLeave.Bd2 w wr A51 A53 A57 A59 c51 c53 c57 c59 R2 R3))
        case atStart => exact ⟨0, rfl, Nat.zero_le _, by omega, K⟩
        case round =>
         as_aux_lemma =>
          clear K
          obtain ⟨i, rfl, hi, hgg, K⟩ := hrel
          by_cases hlt : i < R2.length
          · have hltz : (i : Int) < (R2.length : Int) := by omega
            obtain ⟨x, y, he, hx1, hx2, hy1, hy2, hv, hyn⟩ := F.out.row2 i hlt
            obtain ⟨ad7, a2, c2, e7, h71, h72, h73⟩ := K.out.r51.two i hlt x y he
            subst e7
            have h74 := h73
            (try simp only [Nat.reduceMul, Nat.reduceEqDiff, Go.Addr.add, ↓reduceIte] at h74)
            have hw : IntKind.i64.wrap (x + y) = v2 := (IntWalk.i64_in (x + y) (by omega)).trans hv
            have byn : decide (n2 < y) = false := decide_eq_false (by omega)
            (try clear hm1 hm2)
            clear he hx1 hx2 hy1 hy2 hv hyn
            go_wp2
            go_quiet (fail)
            go_wp2
            go_roundg (R2.length - (i + 1))
            case measure => omega
            case rel => exact ⟨i + 1, by go_num, by omega, Nat.le_refl _, ⟨K.out.below (by first | exact pw_below_drewN (Below.refl _ _) _ | exact pw_below_drewN (pw_below_drewN (Below.refl _ _) _) _)⟩⟩
          · have hltz : ¬ (i : Int) < (R2.length : Int) := by omega
            obtain rfl : i = R2.length := by omega
            clear hgg hi
            go_wp2
            go_loopg [598] R3.length (fun gg s598 wr => ∃ i : Nat, s598 = .int .i64 (i : Int) ∧ i ≤ R3.length ∧ R3.length - i ≤ gg ∧ Aside0 (laws_FnTalksLeave.Bd2 w wr A51 A53 A57 A59 c51 c53 c57 c59 R2 R3))
            case atStart => exact ⟨0, rfl, Nat.zero_le _, by omega, K⟩
            case round =>
             as_aux_lemma =>
              clear K
              obtain ⟨i, rfl, hi, hgg, K⟩ := hrel
              by_cases hlt : i < R3.length
              · have hltz : (i : Int) < (R3.length : Int) := by omega
                obtain ⟨x, y, he, hx1, hx2, hy1, hy2, hv, hyn⟩ := F.out.row3 i hlt
                obtain ⟨ad7, a2, c2, e7, h71, h72, h73⟩ := K.out.r57.two i hlt x y he
                subst e7
                have h74 := h73
                (try simp only [Nat.reduceMul, Nat.reduceEqDiff, Go.Addr.add, ↓reduceIte] at h74)
                have hm1 : x * y ≤ 40 * 40 := Int.mul_le_mul hx2 hy2 (by omega) (by omega)
                have hm2 : 0 ≤ x * y := Int.mul_nonneg (by omega) (by omega)
                have hw : IntKind.i64.wrap (x * y) = v3 := (IntWalk.i64_in (x * y) (by omega)).trans hv
                have byn : decide (n3 < y) = false := decide_eq_false (by omega)
                (try clear hm1 hm2)
                clear he hx1 hx2 hy1 hy2 hv hyn
                go_wp2
                go_quiet (fail)
                go_wp2
                go_roundg (R3.length - (i + 1))
                case measure => omega
                case rel => exact ⟨i + 1, by go_num, by omega, Nat.le_refl _, ⟨K.out.below (by first | exact pw_below_drewN (Below.refl _ _) _ | exact pw_below_drewN (pw_below_drewN (Below.refl _ _) _) _)⟩⟩
              · have hltz : ¬ (i : Int) < (R3.length : Int) := by omega
                obtain rfl : i = R3.length := by omega
                clear hgg hi
                go_wp2
                go_ret
                exact ⟨rfl, K.out.bel⟩

/-- THE ONE PURE STATEMENT of laws_FnTalksLeave: yours. -/
def laws_FnTalksLeave.Pure : Prop := ∀ (l0 : List Int) (l1 : List Int), l0.length ≤ maxLen → l0.length * 1 ≤ 140737488351232 → (∀ x ∈ l0, (Lit.int .u8 x).wf = true) → l1.length ≤ maxLen → l1.length * 1 ≤ 140737488351232 → (∀ x ∈ l1, (Lit.int .u8 x).wf = true) → ∃ k, laws_FnTalksLeave.f k l0 l1 = some true
theorem laws_FnTalksLeave.walk (P : laws_FnTalksLeave.Pure) (a0 : Option Addr) (len0 cap0 : Nat) (z0 : List Int) (a1 : Option Addr) (len1 cap1 : Nat) (z1 : List Int) (w : World) (w0 : (a0 = none ∧ len0 = 0 ∧ cap0 = 0 ∧ z0 = []) ∨ ∃ x, a0 = some x ∧ len0 ≤ cap0 ∧ cap0 ≤ maxLen ∧ z0.length = cap0 ∧ (∀ i, i < z0.length → w.cell? (x.add i) = some (.int .u8 (z0.getD i 0))) ∧ ∀ n ∈ z0, (Lit.int .u8 n).wf = true) (y0 : len0 * 1 ≤ 140737488351232) (w1 : (a1 = none ∧ len1 = 0 ∧ cap1 = 0 ∧ z1 = []) ∨ ∃ x, a1 = some x ∧ len1 ≤ cap1 ∧ cap1 ≤ maxLen ∧ z1.length = cap1 ∧ (∀ i, i < z1.length → w.cell? (x.add i) = some (.int .u8 (z1.getD i 0))) ∧ ∀ n ∈ z1, (Lit.int .u8 n).wf = true) (y1 : len1 * 1 ≤ 140737488351232) :
    Calls Try.prog 10 #[.slice a0 len0 cap0, .slice a1 len1 cap1] w fun e w' => e = .returned (.bool true) ∧ Below w.heap.size w w' := by
  obtain ⟨l0, rfl, hr0, hm0, hw0, hc0⟩ := ReadsInt.ofRowC w0
  obtain ⟨l1, rfl, hr1, hm1, hw1, hc1⟩ := ReadsInt.ofRowC w1
  obtain ⟨k, h⟩ := P l0 l1 hm0 y0 hw0 hm1 y1 hw1
  refine (laws_FnTalksLeave.calls k _ _ l0 _ _ l1 true w (Kd.C_of_reads (d := (0 : Int)) (h1 := fun _ => rfl) hr0) hc0 (Kd.C_of_reads (d := (0 : Int)) (h1 := fun _ => rfl) hr1) hc1 h).mono ?_
  rintro e w' ⟨rfl, hd⟩
  exact ⟨rfl, hd⟩

end Go.Proofs.Ytlkbphhmahipdaa.P
