/- Calls of the functions of the given program return what the plain Lean functions of the same names return; and a row of a law out of its pure statement. Written by a program of this session out of the translation; Lean checks it. No condition. -/
import Derived.Test.YtllihaahppelhaaGreatPx0
import Derived.Test.YtllihaahppelhaaGreatF0
import Derived.Test.YtllihaahppelhaaGreatF1
import Derived.Test.YtllihaahppelhaaGreatF3
import Derived.Test.YtllihaahppelhaaGreatF4
import Derived.Test.YtllihaahppelhaaGreatF5
import Derived.BigQuiet
import Derived.Deep.RegionHeld3
namespace Go.Proofs.YtllihaahppelhaaGreat.P
open Go.RowKit Go.Proofs.YtllihaahppelhaaGreatW.PrintWords Go.Proofs.YtllihaahppelhaaGreatW.PrintLast Go.Proofs.YtllihaahppelhaaGreatW.PrintMore
attribute [local go_sem] max2_int min2_int max_two min_two max_three min_three max_four min_four   -- for this text's walks alone
set_option linter.unusedVariables false
set_option linter.unusedSimpArgs false

/-! ### laws_FnKinRelated: function 3, by hand -/
-- IMPORT Derived.BigQuiet
-- IMPORT Derived.Deep.RegionHeld3
/-- A row of numbers that can be read. -/
structure laws_FnKinRelated.RI (W : World) (A : Option Addr) (c : Nat) (R : List Int) : Prop where
  len : R.length ≤ c
  cs : Kd.C (Kd.int .i64) W A R.length R
/-- A list of kin that can be read. -/
structure laws_FnKinRelated.RK (W : World) (A : Option Addr) (c : Nat) (R : List S41) : Prop where
  len : R.length ≤ c
  cs : Kd.C k41 W A R.length R
theorem laws_FnKinRelated.RI.below {W W' : World} {A : Option Addr} {c : Nat} {R : List Int} (h : laws_FnKinRelated.RI W A c R) (hb : Below W.heap.size W W') : laws_FnKinRelated.RI W' A c R := ⟨h.len, Kd.C_below h.cs hb⟩
theorem laws_FnKinRelated.RK.below {W W' : World} {A : Option Addr} {c : Nat} {R : List S41} (h : laws_FnKinRelated.RK W A c R) (hb : Below W.heap.size W W') : laws_FnKinRelated.RK W' A c R := ⟨h.len, Kd.C_below h.cs hb⟩
/-- What holds all along the first half. -/
structure laws_FnKinRelated.Bd (w W : World) (A5 A24 A26 A28 A30 : Option Addr) (c5 c24 c26 c28 c30 : Nat) (l : List S41) (C L : List Int) : Prop where
  bel : Below w.heap.size w W
  r5 : laws_FnKinRelated.RK W A5 c5 l
  r24 : laws_FnKinRelated.RI W A24 c24 C
  r26 : laws_FnKinRelated.RI W A26 c26 C
  r28 : laws_FnKinRelated.RI W A28 c28 L
  r30 : laws_FnKinRelated.RI W A30 c30 L
theorem laws_FnKinRelated.Bd.below {w W W' : World} {A5 A24 A26 A28 A30 : Option Addr} {c5 c24 c26 c28 c30 : Nat} {l : List S41} {C L : List Int} (h : laws_FnKinRelated.Bd w W A5 A24 A26 A28 A30 c5 c24 c26 c28 c30 l C L) (hb : Below W.heap.size W W') : laws_FnKinRelated.Bd w W' A5 A24 A26 A28 A30 c5 c24 c26 c28 c30 l C L :=
  ⟨below_step h.bel hb, h.r5.below hb, h.r24.below hb, h.r26.below hb, h.r28.below hb, h.r30.below hb⟩
/-- An element of a row, read. -/
theorem laws_FnKinRelated.RI.at {W : World} {A : Option Addr} {c : Nat} {R : List Int} (h : laws_FnKinRelated.RI W A c R) (i : Nat) (hi : i < R.length) : ∃ ad, A = some ad ∧ W.cell? (ad.add i) = some (.int .i64 (rd R (i : Int))) := by
  obtain ⟨ad, e, hc⟩ := Kd.at_int h.cs (i : Int) (by omega) (by omega)
  rw [Int.toNat_natCast] at hc
  exact ⟨ad, e, hc⟩
/-- What tells which test of two texts says yes: what a is to b, and b to a. -/
structure laws_FnKinRelated.Says (what back : ByteArray) (x0 x1 x3 x4 x6 x7 x8 x9 x12 y2 y3 y5 y6 y7 y8 y12 : Bool) : Prop where
  x0 : (what.toList == ([115, 101, 108, 102] : List UInt8)) = x0
  x1 : (what.toList == ([112, 97, 114, 101, 110, 116] : List UInt8)) = x1
  x3 : (what.toList == ([115, 105, 98, 108, 105, 110, 103] : List UInt8)) = x3
  x4 : (what.toList == ([103, 114, 97, 110, 100, 112, 97, 114, 101, 110, 116] : List UInt8)) = x4
  x6 : (what.toList == ([97, 117, 110, 116] : List UInt8)) = x6
  x7 : (what.toList == ([110, 105, 101, 99, 101] : List UInt8)) = x7
  x8 : (what.toList == ([99, 111, 117, 115, 105, 110] : List UInt8)) = x8
  x9 : (what.toList == ([97, 110, 99, 101, 115, 116, 111, 114] : List UInt8)) = x9
  x12 : (what.toList == ([110, 111, 110, 101] : List UInt8)) = x12
  y2 : (back.toList == ([99, 104, 105, 108, 100] : List UInt8)) = y2
  y3 : (back.toList == ([115, 105, 98, 108, 105, 110, 103] : List UInt8)) = y3
  y5 : (back.toList == ([103, 114, 97, 110, 100, 99, 104, 105, 108, 100] : List UInt8)) = y5
  y6 : (back.toList == ([97, 117, 110, 116] : List UInt8)) = y6
  y7 : (back.toList == ([110, 105, 101, 99, 101] : List UInt8)) = y7
  y8 : (back.toList == ([99, 111, 117, 115, 105, 110] : List UInt8)) = y8
  y12 : (back.toList == ([110, 111, 110, 101] : List UInt8)) = y12
/-- Which patterns of yes and no there are. -/
def laws_FnKinRelated.pats : List (List Bool) := [[false, false, false, false, false, false, false, false, false, false, false, false, false, false], [true, false, false, false, false, false, false, true, false, false, false, false, false, false], [false, true, false, false, false, false, false, false, true, false, false, false, false, false], [false, false, true, false, false, false, false, false, false, true, false, false, false, false], [false, false, false, true, false, false, false, false, false, false, false, true, false, false], [false, false, false, true, false, false, false, false, false, false, true, false, false, false], [false, false, false, false, true, false, false, false, false, false, true, false, false, false], [false, false, false, false, false, true, false, false, false, false, false, false, true, false], [false, false, false, false, false, false, true, false, false, false, false, false, false, true]]
/-- What the law's calls tell. -/
structure laws_FnKinRelated.Facts (k : Nat) (l0 l1 : List Int) (l : List S41) (a b : Int) (what back : ByteArray) (q sb hf cs n9 n11 n13 hs : Bool) (x0 x1 x3 x4 x6 x7 x8 x9 x12 y2 y3 y5 y6 y7 y8 y12 : Bool) (C L up : List Int) (st ag : Int) (u : List S41) (cc d yo : Int) (g : Bool) (p1 p2 : Int) (yh : Bool) (ls : Int) : Prop where
  d1 : spec_DrawRelationOf.f k l0 = some (l, a, b)
  iR : impl_RelationOf.f k l a b = some (what, q)
  sR : spec_RelationOf.f k l a b = some (what, q)
  iS : impl_AreSiblings.f k l a b = some (sb, q)
  sS : spec_AreSiblings.f k l a b = some (sb, q)
  iH : impl_AreHalf.f k l a b = some (hf, q)
  sH : spec_AreHalf.f k l a b = some (hf, q)
  iC : impl_AreCousins.f k l a b = some (cs, q)
  sC : spec_AreCousins.f k l a b = some (cs, q)
  iA : impl_CommonAncestors.f k l a b = some (C, q)
  sA : spec_CommonAncestors.f k l a b = some (C, q)
  iL : impl_LineDown.f k l a b = some (L, n9)
  sL : spec_LineDown.f k l a b = some (L, n9)
  iT : impl_StepsApart.f k l a b = some (st, n11)
  sT : spec_StepsApart.f k l a b = some (st, n11)
  iG : impl_AgeAtBirth.f k l a b = some (ag, n13)
  sG : spec_AgeAtBirth.f k l a b = some (ag, n13)
  gC : laws_qSame.f k C C = some true
  gL : laws_qSame.f k L L = some true
  no : q = false → n9 = false ∧ n11 = false ∧ n13 = false
  n9n11 : n9 = true → n11 = true
  n13n9 : n13 = true → n9 = true
  says : q = true → laws_FnKinRelated.Says what back x0 x1 x3 x4 x6 x7 x8 x9 x12 y2 y3 y5 y6 y7 y8 y12
  pat : q = true → [x1, x3, x4, x6, x7, x8, x12, y2, y3, y5, y6, y7, y8, y12] ∈ laws_FnKinRelated.pats
  e1 : q = true → x1 = n13
  e0 : q = true → x0 = decide (a = b)
  bR : q = true → impl_RelationOf.f k l b a = some (back, true)
  bS : q = true → impl_AreSiblings.f k l b a = some (sb, true)
  bC : q = true → impl_AreCousins.f k l b a = some (cs, true)
  bT : q = true → impl_StepsApart.f k l b a = some (st, n11)
  bA : q = true → impl_AncestorsOf.f k l b = some (up, true)
  rC : q = true → laws_qRises.f k C = some true
  hU : q = true → laws_qHas.f k up a = some hs
  fl1 : q = true → hf = true → sb = true
  fl2 : q = true → cs = true → sb = false
  fl3 : q = true → n9 = (decide (a = b) || hs)
  fl4 : q = true → sb = true → 0 < C.length
  fl5 : q = true → x12 = true → C.length = 0 ∧ n9 = false
  fl6 : q = true → x9 = true → n9 = true ∧ sb = false ∧ x12 = false
  lC : C.length ≤ 2000
  lL : L.length ≤ 2000
  line : n9 = true → 0 < L.length ∧ rd L 0 = a ∧ rd L (((L.length - 1 : Nat)) : Int) = b ∧ st ≤ (L.length : Int) - 1
  row : n9 = true → ∀ i : Nat, 1 ≤ i → i < L.length → ∃ ch, impl_ChildrenOf.f k l (rd L ((i - 1 : Nat) : Int)) = some (ch, true) ∧ laws_qHas.f k ch (rd L (i : Int)) = some true
  age : n13 = true → 14 ≤ ag ∧ ag ≤ 3000 ∧ ag = (rd_T41 l b).f0 - (rd_T41 l a).f0 ∧ L.length = 2 ∧ st = 1 ∧ (0 ≤ a ∧ a < (l.length : Int)) ∧ 0 ≤ b ∧ b < (l.length : Int)
  d2 : spec_DrawAgeAtBirth.f k l1 = some (u, cc, d)
  iG2 : impl_AgeAtBirth.f k u cc d = some (yo, g)
  sG2 : spec_AgeAtBirth.f k u cc d = some (yo, g)
  iY : impl_YoungestParent.f k u = some (p1, p2, yh)
  sY : spec_YoungestParent.f k u = some (p1, p2, yh)
  gh : g = true → yh = true
  lst : yh = true → impl_AgeAtBirth.f k u p1 p2 = some (ls, true) ∧ (g = true → ls ≤ yo)
/-- All of it, somehow. -/
def laws_FnKinRelated.All (k : Nat) (l0 l1 : List Int) : Prop := ∃ l a b what back q sb hf cs n9 n11 n13 hs x0 x1 x3 x4 x6 x7 x8 x9 x12 y2 y3 y5 y6 y7 y8 y12 C L up st ag u cc d yo g p1 p2 yh ls, laws_FnKinRelated.Facts k l0 l1 l a b what back q sb hf cs n9 n11 n13 hs x0 x1 x3 x4 x6 x7 x8 x9 x12 y2 y3 y5 y6 y7 y8 y12 C L up st ag u cc d yo g p1 p2 yh ls
open Classical in
/-- The law in short: what each call tells. -/
noncomputable def laws_FnKinRelated.f (k : Nat) (l0 l1 : List Int) : Option Bool :=
  if laws_big.f l0 l1 = some true then some true
  else if laws_big.f l0 l1 = some false ∧ laws_FnKinRelated.All k l0 l1 then some true else none
set_option maxHeartbeats 40000000 in
set_option maxRecDepth 100000 in
theorem laws_FnKinRelated.calls (k : Nat) (A0 : Option Addr) (c0 : Nat) (l0 : List Int) (A1 : Option Addr) (c1 : Nat) (l1 : List Int) (r : Bool) (w : World) (hr0 : Kd.C (Kd.int .u8) w A0 l0.length l0) (hc0 : l0.length ≤ c0) (hr1 : Kd.C (Kd.int .u8) w A1 l1.length l1) (hc1 : l1.length ≤ c1) (h : laws_FnKinRelated.f k l0 l1 = some r) :
    Calls Tryz.prog 3 #[.slice A0 l0.length c0, .slice A1 l1.length c1] w fun e w' => e = .returned (.bool r) ∧ Below w.heap.size w w' := by
  unfold laws_FnKinRelated.f at h
  by_cases hb : laws_big.f l0 l1 = some true
  · rw [if_pos hb] at h
    obtain rfl := Option.some.inj h
    have TB := Aside0.mk (laws_big.calls A0 c0 l0 A1 c1 l1 true w hr0 hc0 hr1 hc1 hb)
    clear h hb hr0 hc0 hr1 hc1
    go_enter Tryz.func3, Tryz.ntmps3
    go_wp2_with (go_at_call 4; refine TB.out.mono ?_; rintro e w2 ⟨rfl, hd⟩; have hb2 := Aside0.mk hd.below; clear hd)
    go_ret
    exact ⟨rfl, hb2.out⟩
  rw [if_neg hb] at h
  have hq : laws_big.f l0 l1 = some false ∧ laws_FnKinRelated.All k l0 l1 := by
    split at h
    · assumption
    · cases h
  rw [if_pos hq] at h
  obtain rfl := Option.some.inj h
  obtain ⟨hbg, l, a, b, what, back, q, sb, hf, cs, n9, n11, n13, hs, x0, x1, x3, x4, x6, x7, x8, x9, x12, y2, y3, y5, y6, y7, y8, y12, C, L, up, st, ag, u, cc, d, yo, g, p1, p2, yh, ls, hF⟩ := hq
  have F := Aside0.mk hF
  have TB : Aside0 (Calls Tryz.prog 4 #[.slice A0 l0.length c0, .slice A1 l1.length c1] w fun e w' => e = .returned (.bool false) ∧ Aside0 (Below w.heap.size w w')) := ⟨(laws_big.calls A0 c0 l0 A1 c1 l1 false w hr0 hc0 hr1 hc1 hbg).mono fun e w' he => ⟨he.1, ⟨he.2.below⟩⟩⟩
  have TD1 : Aside0 (∀ W, Below w.heap.size w W → Calls Tryz.prog 5 #[.slice A0 l0.length c0] W fun e w' => ∃ A c, e = .returned (.tuple #[.slice A l.length c, .int .i64 a, .int .i64 b]) ∧ Aside0 (laws_FnKinRelated.RK w' A c l ∧ Below W.heap.size W w')) := ⟨fun W hW => (spec_DrawRelationOf.calls k A0 c0 l0 l a b W (Kd.C_below hr0 hW) hc0 hF.d1).mono fun e w' he => by
    obtain ⟨v, rfl, h1, h2⟩ := he
    obtain ⟨A, c, rfl, h3, h4⟩ := Kd.R_reads h1
    exact ⟨A, c, rfl, ⟨⟨h3, h4⟩, h2⟩⟩⟩
  have TD2 : Aside0 (∀ W, Below w.heap.size w W → Calls Tryz.prog 27 #[.slice A1 l1.length c1] W fun e w' => ∃ A c, e = .returned (.tuple #[.slice A u.length c, .int .i64 cc, .int .i64 d]) ∧ Aside0 (laws_FnKinRelated.RK w' A c u ∧ Below W.heap.size W w')) := ⟨fun W hW => (spec_DrawAgeAtBirth.calls k A1 c1 l1 u cc d W (Kd.C_below hr1 hW) hc1 hF.d2).mono fun e w' he => by
    obtain ⟨v, rfl, h1, h2⟩ := he
    obtain ⟨A, c, rfl, h3, h4⟩ := Kd.R_reads h1
    exact ⟨A, c, rfl, ⟨⟨h3, h4⟩, h2⟩⟩⟩
  have TR1 : Aside0 (∀ W A c, laws_FnKinRelated.RK W A c l → Calls Tryz.prog 6 #[.slice A l.length c, .int .i64 a, .int .i64 b] W fun e w' => e = .returned (.tuple #[.string what, .bool q]) ∧ Aside0 (Below W.heap.size W w')) := ⟨fun W A c hK => (impl_RelationOf.calls k A c l a b what q W hK.cs hK.len hF.iR).mono fun e w' he => ⟨he.1, ⟨by first | exact he.2 | exact he.2.below⟩⟩⟩
  have TR2 : Aside0 (∀ W A c, laws_FnKinRelated.RK W A c l → Calls Tryz.prog 7 #[.slice A l.length c, .int .i64 a, .int .i64 b] W fun e w' => e = .returned (.tuple #[.string what, .bool q]) ∧ Aside0 (Below W.heap.size W w')) := ⟨fun W A c hK => (spec_RelationOf.calls k A c l a b what q W hK.cs hK.len hF.sR).mono fun e w' he => ⟨he.1, ⟨by first | exact he.2 | exact he.2.below⟩⟩⟩
  have TS1 : Aside0 (∀ W A c, laws_FnKinRelated.RK W A c l → Calls Tryz.prog 8 #[.slice A l.length c, .int .i64 a, .int .i64 b] W fun e w' => e = .returned (.tuple #[.bool sb, .bool q]) ∧ Aside0 (Below W.heap.size W w')) := ⟨fun W A c hK => (impl_AreSiblings.calls k A c l a b sb q W hK.cs hK.len hF.iS).mono fun e w' he => ⟨he.1, ⟨by first | exact he.2 | exact he.2.below⟩⟩⟩
  have TS2 : Aside0 (∀ W A c, laws_FnKinRelated.RK W A c l → Calls Tryz.prog 9 #[.slice A l.length c, .int .i64 a, .int .i64 b] W fun e w' => e = .returned (.tuple #[.bool sb, .bool q]) ∧ Aside0 (Below W.heap.size W w')) := ⟨fun W A c hK => (spec_AreSiblings.calls k A c l a b sb q W hK.cs hK.len hF.sS).mono fun e w' he => ⟨he.1, ⟨by first | exact he.2 | exact he.2.below⟩⟩⟩
  have TH1 : Aside0 (∀ W A c, laws_FnKinRelated.RK W A c l → Calls Tryz.prog 10 #[.slice A l.length c, .int .i64 a, .int .i64 b] W fun e w' => e = .returned (.tuple #[.bool hf, .bool q]) ∧ Aside0 (Below W.heap.size W w')) := ⟨fun W A c hK => (impl_AreHalf.calls k A c l a b hf q W hK.cs hK.len hF.iH).mono fun e w' he => ⟨he.1, ⟨by first | exact he.2 | exact he.2.below⟩⟩⟩
  have TH2 : Aside0 (∀ W A c, laws_FnKinRelated.RK W A c l → Calls Tryz.prog 11 #[.slice A l.length c, .int .i64 a, .int .i64 b] W fun e w' => e = .returned (.tuple #[.bool hf, .bool q]) ∧ Aside0 (Below W.heap.size W w')) := ⟨fun W A c hK => (spec_AreHalf.calls k A c l a b hf q W hK.cs hK.len hF.sH).mono fun e w' he => ⟨he.1, ⟨by first | exact he.2 | exact he.2.below⟩⟩⟩
  have TC1 : Aside0 (∀ W A c, laws_FnKinRelated.RK W A c l → Calls Tryz.prog 12 #[.slice A l.length c, .int .i64 a, .int .i64 b] W fun e w' => e = .returned (.tuple #[.bool cs, .bool q]) ∧ Aside0 (Below W.heap.size W w')) := ⟨fun W A c hK => (impl_AreCousins.calls k A c l a b cs q W hK.cs hK.len hF.iC).mono fun e w' he => ⟨he.1, ⟨by first | exact he.2 | exact he.2.below⟩⟩⟩
  have TC2 : Aside0 (∀ W A c, laws_FnKinRelated.RK W A c l → Calls Tryz.prog 13 #[.slice A l.length c, .int .i64 a, .int .i64 b] W fun e w' => e = .returned (.tuple #[.bool cs, .bool q]) ∧ Aside0 (Below W.heap.size W w')) := ⟨fun W A c hK => (spec_AreCousins.calls k A c l a b cs q W hK.cs hK.len hF.sC).mono fun e w' he => ⟨he.1, ⟨by first | exact he.2 | exact he.2.below⟩⟩⟩
  have TA1 : Aside0 (∀ W A c, laws_FnKinRelated.RK W A c l → Calls Tryz.prog 14 #[.slice A l.length c, .int .i64 a, .int .i64 b] W fun e w' => ∃ A' c', e = .returned (.tuple #[.slice A' C.length c', .bool q]) ∧ Aside0 (laws_FnKinRelated.RI w' A' c' C ∧ Below W.heap.size W w')) := ⟨fun W A c hK => (impl_CommonAncestors.calls k A c l a b C q W hK.cs hK.len hF.iA).mono fun e w' he => by
    obtain ⟨v, rfl, h1, h2⟩ := he
    obtain ⟨A, c, rfl, h3, h4⟩ := Kd.R_reads h1
    exact ⟨A, c, rfl, ⟨⟨h3, h4⟩, h2⟩⟩⟩
  have TA2 : Aside0 (∀ W A c, laws_FnKinRelated.RK W A c l → Calls Tryz.prog 15 #[.slice A l.length c, .int .i64 a, .int .i64 b] W fun e w' => ∃ A' c', e = .returned (.tuple #[.slice A' C.length c', .bool q]) ∧ Aside0 (laws_FnKinRelated.RI w' A' c' C ∧ Below W.heap.size W w')) := ⟨fun W A c hK => (spec_CommonAncestors.calls k A c l a b C q W hK.cs hK.len hF.sA).mono fun e w' he => by
    obtain ⟨v, rfl, h1, h2⟩ := he
    obtain ⟨A, c, rfl, h3, h4⟩ := Kd.R_reads h1
    exact ⟨A, c, rfl, ⟨⟨h3, h4⟩, h2⟩⟩⟩
  have TL1 : Aside0 (∀ W A c, laws_FnKinRelated.RK W A c l → Calls Tryz.prog 16 #[.slice A l.length c, .int .i64 a, .int .i64 b] W fun e w' => ∃ A' c', e = .returned (.tuple #[.slice A' L.length c', .bool n9]) ∧ Aside0 (laws_FnKinRelated.RI w' A' c' L ∧ Below W.heap.size W w')) := ⟨fun W A c hK => (impl_LineDown.calls k A c l a b L n9 W hK.cs hK.len hF.iL).mono fun e w' he => by
    obtain ⟨v, rfl, h1, h2⟩ := he
    obtain ⟨A, c, rfl, h3, h4⟩ := Kd.R_reads h1
    exact ⟨A, c, rfl, ⟨⟨h3, h4⟩, h2⟩⟩⟩
  have TL2 : Aside0 (∀ W A c, laws_FnKinRelated.RK W A c l → Calls Tryz.prog 17 #[.slice A l.length c, .int .i64 a, .int .i64 b] W fun e w' => ∃ A' c', e = .returned (.tuple #[.slice A' L.length c', .bool n9]) ∧ Aside0 (laws_FnKinRelated.RI w' A' c' L ∧ Below W.heap.size W w')) := ⟨fun W A c hK => (spec_LineDown.calls k A c l a b L n9 W hK.cs hK.len hF.sL).mono fun e w' he => by
    obtain ⟨v, rfl, h1, h2⟩ := he
    obtain ⟨A, c, rfl, h3, h4⟩ := Kd.R_reads h1
    exact ⟨A, c, rfl, ⟨⟨h3, h4⟩, h2⟩⟩⟩
  have TT1 : Aside0 (∀ W A c, laws_FnKinRelated.RK W A c l → Calls Tryz.prog 18 #[.slice A l.length c, .int .i64 a, .int .i64 b] W fun e w' => e = .returned (.tuple #[.int .i64 st, .bool n11]) ∧ Aside0 (Below W.heap.size W w')) := ⟨fun W A c hK => (impl_StepsApart.calls k A c l a b st n11 W hK.cs hK.len hF.iT).mono fun e w' he => ⟨he.1, ⟨by first | exact he.2 | exact he.2.below⟩⟩⟩
  have TT2 : Aside0 (∀ W A c, laws_FnKinRelated.RK W A c l → Calls Tryz.prog 19 #[.slice A l.length c, .int .i64 a, .int .i64 b] W fun e w' => e = .returned (.tuple #[.int .i64 st, .bool n11]) ∧ Aside0 (Below W.heap.size W w')) := ⟨fun W A c hK => (spec_StepsApart.calls k A c l a b st n11 W hK.cs hK.len hF.sT).mono fun e w' he => ⟨he.1, ⟨by first | exact he.2 | exact he.2.below⟩⟩⟩
  have TG1 : Aside0 (∀ W A c, laws_FnKinRelated.RK W A c l → Calls Tryz.prog 20 #[.slice A l.length c, .int .i64 a, .int .i64 b] W fun e w' => e = .returned (.tuple #[.int .i64 ag, .bool n13]) ∧ Aside0 (Below W.heap.size W w')) := ⟨fun W A c hK => (impl_AgeAtBirth.calls k A c l a b ag n13 W hK.cs hK.len hF.iG).mono fun e w' he => ⟨he.1, ⟨by first | exact he.2 | exact he.2.below⟩⟩⟩
  have TG2 : Aside0 (∀ W A c, laws_FnKinRelated.RK W A c l → Calls Tryz.prog 21 #[.slice A l.length c, .int .i64 a, .int .i64 b] W fun e w' => e = .returned (.tuple #[.int .i64 ag, .bool n13]) ∧ Aside0 (Below W.heap.size W w')) := ⟨fun W A c hK => (spec_AgeAtBirth.calls k A c l a b ag n13 W hK.cs hK.len hF.sG).mono fun e w' he => ⟨he.1, ⟨by first | exact he.2 | exact he.2.below⟩⟩⟩
  have TQC : Aside0 (∀ W A c A' c', laws_FnKinRelated.RI W A c C → laws_FnKinRelated.RI W A' c' C → Calls Tryz.prog 22 #[.slice A C.length c, .slice A' C.length c'] W fun e w' => e = .returned (.bool true) ∧ Aside0 (Below W.heap.size W w')) := ⟨fun W A c A' c' h1 h2 => (laws_qSame.calls k A c C A' c' C true W h1.cs h1.len h2.cs h2.len hF.gC).mono fun e w' he => ⟨he.1, ⟨he.2.below⟩⟩⟩
  have TQL : Aside0 (∀ W A c A' c', laws_FnKinRelated.RI W A c L → laws_FnKinRelated.RI W A' c' L → Calls Tryz.prog 22 #[.slice A L.length c, .slice A' L.length c'] W fun e w' => e = .returned (.bool true) ∧ Aside0 (Below W.heap.size W w')) := ⟨fun W A c A' c' h1 h2 => (laws_qSame.calls k A c L A' c' L true W h1.cs h1.len h2.cs h2.len hF.gL).mono fun e w' he => ⟨he.1, ⟨he.2.below⟩⟩⟩
  have TG3 : Aside0 (∀ W A c, laws_FnKinRelated.RK W A c u → Calls Tryz.prog 20 #[.slice A u.length c, .int .i64 cc, .int .i64 d] W fun e w' => e = .returned (.tuple #[.int .i64 yo, .bool g]) ∧ Aside0 (Below W.heap.size W w')) := ⟨fun W A c hK => (impl_AgeAtBirth.calls k A c u cc d yo g W hK.cs hK.len hF.iG2).mono fun e w' he => ⟨he.1, ⟨by first | exact he.2 | exact he.2.below⟩⟩⟩
  have TG4 : Aside0 (∀ W A c, laws_FnKinRelated.RK W A c u → Calls Tryz.prog 21 #[.slice A u.length c, .int .i64 cc, .int .i64 d] W fun e w' => e = .returned (.tuple #[.int .i64 yo, .bool g]) ∧ Aside0 (Below W.heap.size W w')) := ⟨fun W A c hK => (spec_AgeAtBirth.calls k A c u cc d yo g W hK.cs hK.len hF.sG2).mono fun e w' he => ⟨he.1, ⟨by first | exact he.2 | exact he.2.below⟩⟩⟩
  have TY1 : Aside0 (∀ W A c, laws_FnKinRelated.RK W A c u → Calls Tryz.prog 28 #[.slice A u.length c] W fun e w' => e = .returned (.tuple #[.int .i64 p1, .int .i64 p2, .bool yh]) ∧ Aside0 (Below W.heap.size W w')) := ⟨fun W A c hK => (impl_YoungestParent.calls k A c u  p1 p2 yh W hK.cs hK.len hF.iY).mono fun e w' he => ⟨he.1, ⟨by first | exact he.2 | exact he.2.below⟩⟩⟩
  have TY2 : Aside0 (∀ W A c, laws_FnKinRelated.RK W A c u → Calls Tryz.prog 29 #[.slice A u.length c] W fun e w' => e = .returned (.tuple #[.int .i64 p1, .int .i64 p2, .bool yh]) ∧ Aside0 (Below W.heap.size W w')) := ⟨fun W A c hK => (spec_YoungestParent.calls k A c u  p1 p2 yh W hK.cs hK.len hF.sY).mono fun e w' he => ⟨he.1, ⟨by first | exact he.2 | exact he.2.below⟩⟩⟩
  clear hb hr0 hc0 hr1 hc1 hbg hF
  go_enter Tryz.func3, Tryz.ntmps3
  go_upto_region 20 with (first
    | (go_at_call 4; (with_reducible refine (TB.out).mono ?_); rintro e wz1 ⟨rfl, hz1⟩; have HB := Aside0.mk hz1.out; clear hz1 TB)
    | (go_at_call 5; (with_reducible refine (TD1.out _ HB.out).mono ?_); rintro e wz2 ⟨A5, c5, rfl, hz2⟩; replace HB := Aside0.mk (below_step HB.out hz2.out.2); have C5 := Aside0.mk hz2.out.1; clear hz2 TD1)
    | (go_at_call 6; (with_reducible refine (TR1.out _ _ _ C5.out).mono ?_); rintro e wz3 ⟨rfl, hz3⟩; replace HB := Aside0.mk (below_step HB.out hz3.out); replace C5 := Aside0.mk (C5.out.below hz3.out); clear hz3 TR1)
    | (go_at_call 7; (with_reducible refine (TR2.out _ _ _ C5.out).mono ?_); rintro e wz4 ⟨rfl, hz4⟩; replace HB := Aside0.mk (below_step HB.out hz4.out); replace C5 := Aside0.mk (C5.out.below hz4.out); clear hz4 TR2)
    | (go_at_call 8; (with_reducible refine (TS1.out _ _ _ C5.out).mono ?_); rintro e wz5 ⟨rfl, hz5⟩; replace HB := Aside0.mk (below_step HB.out hz5.out); replace C5 := Aside0.mk (C5.out.below hz5.out); clear hz5 TS1)
    | (go_at_call 9; (with_reducible refine (TS2.out _ _ _ C5.out).mono ?_); rintro e wz6 ⟨rfl, hz6⟩; replace HB := Aside0.mk (below_step HB.out hz6.out); replace C5 := Aside0.mk (C5.out.below hz6.out); clear hz6 TS2)
    | (go_at_call 10; (with_reducible refine (TH1.out _ _ _ C5.out).mono ?_); rintro e wz7 ⟨rfl, hz7⟩; replace HB := Aside0.mk (below_step HB.out hz7.out); replace C5 := Aside0.mk (C5.out.below hz7.out); clear hz7 TH1)
    | (go_at_call 11; (with_reducible refine (TH2.out _ _ _ C5.out).mono ?_); rintro e wz8 ⟨rfl, hz8⟩; replace HB := Aside0.mk (below_step HB.out hz8.out); replace C5 := Aside0.mk (C5.out.below hz8.out); clear hz8 TH2)
    | (go_at_call 12; (with_reducible refine (TC1.out _ _ _ C5.out).mono ?_); rintro e wz9 ⟨rfl, hz9⟩; replace HB := Aside0.mk (below_step HB.out hz9.out); replace C5 := Aside0.mk (C5.out.below hz9.out); clear hz9 TC1)
    | (go_at_call 13; (with_reducible refine (TC2.out _ _ _ C5.out).mono ?_); rintro e wz10 ⟨rfl, hz10⟩; replace HB := Aside0.mk (below_step HB.out hz10.out); replace C5 := Aside0.mk (C5.out.below hz10.out); clear hz10 TC2)
    | (go_at_call 14; (with_reducible refine (TA1.out _ _ _ C5.out).mono ?_); rintro e wz11 ⟨A24, c24, rfl, hz11⟩; replace HB := Aside0.mk (below_step HB.out hz11.out.2); replace C5 := Aside0.mk (C5.out.below hz11.out.2); have C24 := Aside0.mk hz11.out.1; clear hz11 TA1)
    | (go_at_call 15; (with_reducible refine (TA2.out _ _ _ C5.out).mono ?_); rintro e wz12 ⟨A26, c26, rfl, hz12⟩; replace HB := Aside0.mk (below_step HB.out hz12.out.2); replace C5 := Aside0.mk (C5.out.below hz12.out.2); replace C24 := Aside0.mk (C24.out.below hz12.out.2); have C26 := Aside0.mk hz12.out.1; clear hz12 TA2)
    | (go_at_call 16; (with_reducible refine (TL1.out _ _ _ C5.out).mono ?_); rintro e wz13 ⟨A28, c28, rfl, hz13⟩; replace HB := Aside0.mk (below_step HB.out hz13.out.2); replace C5 := Aside0.mk (C5.out.below hz13.out.2); replace C24 := Aside0.mk (C24.out.below hz13.out.2); replace C26 := Aside0.mk (C26.out.below hz13.out.2); have C28 := Aside0.mk hz13.out.1; clear hz13 TL1)
    | (go_at_call 17; (with_reducible refine (TL2.out _ _ _ C5.out).mono ?_); rintro e wz14 ⟨A30, c30, rfl, hz14⟩; replace HB := Aside0.mk (below_step HB.out hz14.out.2); replace C5 := Aside0.mk (C5.out.below hz14.out.2); replace C24 := Aside0.mk (C24.out.below hz14.out.2); replace C26 := Aside0.mk (C26.out.below hz14.out.2); replace C28 := Aside0.mk (C28.out.below hz14.out.2); have C30 := Aside0.mk hz14.out.1; clear hz14 TL2)
    | (go_at_call 18; (with_reducible refine (TT1.out _ _ _ C5.out).mono ?_); rintro e wz15 ⟨rfl, hz15⟩; replace HB := Aside0.mk (below_step HB.out hz15.out); replace C5 := Aside0.mk (C5.out.below hz15.out); replace C24 := Aside0.mk (C24.out.below hz15.out); replace C26 := Aside0.mk (C26.out.below hz15.out); replace C28 := Aside0.mk (C28.out.below hz15.out); replace C30 := Aside0.mk (C30.out.below hz15.out); clear hz15 TT1)
    | (go_at_call 19; (with_reducible refine (TT2.out _ _ _ C5.out).mono ?_); rintro e wz16 ⟨rfl, hz16⟩; replace HB := Aside0.mk (below_step HB.out hz16.out); replace C5 := Aside0.mk (C5.out.below hz16.out); replace C24 := Aside0.mk (C24.out.below hz16.out); replace C26 := Aside0.mk (C26.out.below hz16.out); replace C28 := Aside0.mk (C28.out.below hz16.out); replace C30 := Aside0.mk (C30.out.below hz16.out); clear hz16 TT2)
    | (go_at_call 20; (with_reducible refine (TG1.out _ _ _ C5.out).mono ?_); rintro e wz17 ⟨rfl, hz17⟩; replace HB := Aside0.mk (below_step HB.out hz17.out); replace C5 := Aside0.mk (C5.out.below hz17.out); replace C24 := Aside0.mk (C24.out.below hz17.out); replace C26 := Aside0.mk (C26.out.below hz17.out); replace C28 := Aside0.mk (C28.out.below hz17.out); replace C30 := Aside0.mk (C30.out.below hz17.out); clear hz17 TG1)
    | (go_at_call 21; (with_reducible refine (TG2.out _ _ _ C5.out).mono ?_); rintro e wz18 ⟨rfl, hz18⟩; replace HB := Aside0.mk (below_step HB.out hz18.out); replace C5 := Aside0.mk (C5.out.below hz18.out); replace C24 := Aside0.mk (C24.out.below hz18.out); replace C26 := Aside0.mk (C26.out.below hz18.out); replace C28 := Aside0.mk (C28.out.below hz18.out); replace C30 := Aside0.mk (C30.out.below hz18.out); clear hz18 TG2))
  (try simp only [Act.put, List.setIfInBounds_toArray, List.set_cons_zero, List.set_cons_succ])
  have K := Aside0.mk (show _ from (⟨HB.out, C5.out, C24.out, C26.out, C28.out, C30.out⟩ : laws_FnKinRelated.Bd w _ A5 A24 A26 A28 A30 c5 c24 c26 c28 c30 l C L))
  clear HB C5 C24 C26 C28 C30
  go_cut [318] from 1 to 0 (fun v318 wc => v318 = .bool false ∧ Aside0 (laws_FnKinRelated.Bd w wc A5 A24 A26 A28 A30 c5 c24 c26 c28 c30 l C L))
  case first =>
   as_aux_lemma =>
    simp only [List.append]
    have hno := Aside0.mk F.out.no
    have h911 := Aside0.mk F.out.n9n11
    have h139 := Aside0.mk F.out.n13n9
    have HS := Aside0.mk F.out.says
    have HE := Aside0.mk F.out.e1
    cases q with
    | false =>
      obtain ⟨rfl, rfl, rfl⟩ := hno.out rfl
      clear h911 h139 HS HE hno
      go_wp2_with (first
        | (go_at_call 22; (with_reducible refine (TQC.out _ _ _ _ _ K.out.r24 K.out.r26).mono ?_); rintro e wg ⟨rfl, hb⟩; replace K := Aside0.mk (K.out.below hb.out); clear hb)
        | (go_at_call 22; (with_reducible refine (TQL.out _ _ _ _ _ K.out.r28 K.out.r30).mono ?_); rintro e wg ⟨rfl, hb⟩; replace K := Aside0.mk (K.out.below hb.out); clear hb))
      go_meet
      case rel => exact ⟨rfl, K⟩
    | true =>
      have hx : (what.toList == ([112, 97, 114, 101, 110, 116] : List UInt8)) = n13 := (HS.out rfl).x1.trans (HE.out rfl)
      clear HS HE hno
      cases n9 with
      | false =>
        obtain rfl : n13 = false := by
          cases n13 with
          | false => rfl
          | true => exact absurd (h139.out rfl) (by decide)
        clear h911 h139
        cases n11 with
        | false =>
          go_wp2_with (first
            | (go_at_call 22; (with_reducible refine (TQC.out _ _ _ _ _ K.out.r24 K.out.r26).mono ?_); rintro e wg ⟨rfl, hb⟩; replace K := Aside0.mk (K.out.below hb.out); clear hb)
            | (go_at_call 22; (with_reducible refine (TQL.out _ _ _ _ _ K.out.r28 K.out.r30).mono ?_); rintro e wg ⟨rfl, hb⟩; replace K := Aside0.mk (K.out.below hb.out); clear hb))
          go_meet
          case rel => exact ⟨rfl, K⟩
        | true =>
          go_wp2_with (first
            | (go_at_call 22; (with_reducible refine (TQC.out _ _ _ _ _ K.out.r24 K.out.r26).mono ?_); rintro e wg ⟨rfl, hb⟩; replace K := Aside0.mk (K.out.below hb.out); clear hb)
            | (go_at_call 22; (with_reducible refine (TQL.out _ _ _ _ _ K.out.r28 K.out.r30).mono ?_); rintro e wg ⟨rfl, hb⟩; replace K := Aside0.mk (K.out.below hb.out); clear hb))
          go_meet
          case rel => exact ⟨rfl, K⟩
      | true =>
        obtain rfl := h911.out rfl
        clear h911 h139
        cases n13 with
        | false =>
          go_wp2_with (first
            | (go_at_call 22; (with_reducible refine (TQC.out _ _ _ _ _ K.out.r24 K.out.r26).mono ?_); rintro e wg ⟨rfl, hb⟩; replace K := Aside0.mk (K.out.below hb.out); clear hb)
            | (go_at_call 22; (with_reducible refine (TQL.out _ _ _ _ _ K.out.r28 K.out.r30).mono ?_); rintro e wg ⟨rfl, hb⟩; replace K := Aside0.mk (K.out.below hb.out); clear hb))
          go_meet
          case rel => exact ⟨rfl, K⟩
        | true =>
          go_wp2_with (first
            | (go_at_call 22; (with_reducible refine (TQC.out _ _ _ _ _ K.out.r24 K.out.r26).mono ?_); rintro e wg ⟨rfl, hb⟩; replace K := Aside0.mk (K.out.below hb.out); clear hb)
            | (go_at_call 22; (with_reducible refine (TQL.out _ _ _ _ _ K.out.r28 K.out.r30).mono ?_); rintro e wg ⟨rfl, hb⟩; replace K := Aside0.mk (K.out.below hb.out); clear hb))
          go_meet
          case rel => exact ⟨rfl, K⟩
  case rest =>
   as_aux_lemma =>
    clear K TQC TQL
    obtain ⟨rfl, K⟩ := hcut
    go_upto_if 319 with (fail)
    go_cut [] from 319 to 319 (fun wc => Aside0 (laws_FnKinRelated.Bd w wc A5 A24 A26 A28 A30 c5 c24 c26 c28 c30 l C L))
    case first =>
     as_aux_lemma =>
      clear TD2 TG3 TG4 TY1 TY2
      cases q with
      | false =>
        go_wp2
        go_meet
        case rel => exact K
      | true =>
        have BR : Aside0 (∀ W A c, laws_FnKinRelated.RK W A c l → Calls Tryz.prog 6 #[.slice A l.length c, .int .i64 b, .int .i64 a] W fun e w' => e = .returned (.tuple #[.string back, .bool true]) ∧ Aside0 (Below W.heap.size W w')) := ⟨fun W A c hK => (impl_RelationOf.calls k A c l b a back true W hK.cs hK.len (F.out.bR rfl)).mono fun e w' he => ⟨he.1, ⟨by first | exact he.2 | exact he.2.below⟩⟩⟩
        have BS : Aside0 (∀ W A c, laws_FnKinRelated.RK W A c l → Calls Tryz.prog 8 #[.slice A l.length c, .int .i64 b, .int .i64 a] W fun e w' => e = .returned (.tuple #[.bool sb, .bool true]) ∧ Aside0 (Below W.heap.size W w')) := ⟨fun W A c hK => (impl_AreSiblings.calls k A c l b a sb true W hK.cs hK.len (F.out.bS rfl)).mono fun e w' he => ⟨he.1, ⟨by first | exact he.2 | exact he.2.below⟩⟩⟩
        have BC : Aside0 (∀ W A c, laws_FnKinRelated.RK W A c l → Calls Tryz.prog 12 #[.slice A l.length c, .int .i64 b, .int .i64 a] W fun e w' => e = .returned (.tuple #[.bool cs, .bool true]) ∧ Aside0 (Below W.heap.size W w')) := ⟨fun W A c hK => (impl_AreCousins.calls k A c l b a cs true W hK.cs hK.len (F.out.bC rfl)).mono fun e w' he => ⟨he.1, ⟨by first | exact he.2 | exact he.2.below⟩⟩⟩
        have BT : Aside0 (∀ W A c, laws_FnKinRelated.RK W A c l → Calls Tryz.prog 18 #[.slice A l.length c, .int .i64 b, .int .i64 a] W fun e w' => e = .returned (.tuple #[.int .i64 st, .bool n11]) ∧ Aside0 (Below W.heap.size W w')) := ⟨fun W A c hK => (impl_StepsApart.calls k A c l b a st n11 W hK.cs hK.len (F.out.bT rfl)).mono fun e w' he => ⟨he.1, ⟨by first | exact he.2 | exact he.2.below⟩⟩⟩
        have BA : Aside0 (∀ W A c, laws_FnKinRelated.RK W A c l → Calls Tryz.prog 23 #[.slice A l.length c, .int .i64 b] W fun e w' => ∃ A' c', e = .returned (.tuple #[.slice A' up.length c', .bool true]) ∧ Aside0 (laws_FnKinRelated.RI w' A' c' up ∧ Below W.heap.size W w')) := ⟨fun W A c hK => (impl_AncestorsOf.calls k A c l b up true W hK.cs hK.len (F.out.bA rfl)).mono fun e w' he => by
          obtain ⟨v, rfl, h1, h2⟩ := he
          obtain ⟨A, c, rfl, h3, h4⟩ := Kd.R_reads h1
          exact ⟨A, c, rfl, ⟨⟨h3, h4⟩, h2⟩⟩⟩
        have TRC : Aside0 (∀ W A c, laws_FnKinRelated.RI W A c C → Calls Tryz.prog 24 #[.slice A C.length c] W fun e w' => e = .returned (.bool true) ∧ Aside0 (Below W.heap.size W w')) := ⟨fun W A c h1 => (laws_qRises.calls k A c C true W h1.cs h1.len (F.out.rC rfl)).mono fun e w' he => ⟨he.1, ⟨he.2.below⟩⟩⟩
        have THU : Aside0 (∀ W A c, laws_FnKinRelated.RI W A c up → Calls Tryz.prog 25 #[.slice A up.length c, .int .i64 a] W fun e w' => e = .returned (.bool hs) ∧ Aside0 (Below W.heap.size W w')) := ⟨fun W A c h1 => (laws_qHas.calls k A c up a hs W h1.cs h1.len (F.out.hU rfl)).mono fun e w' he => ⟨he.1, ⟨he.2.below⟩⟩⟩
        go_upto_region 28 with (first
          | (go_at_call 6; (with_reducible refine (BR.out _ _ _ K.out.r5).mono ?_); rintro e wz ⟨rfl, hz⟩; replace K := Aside0.mk (K.out.below hz.out); clear hz BR)
          | (go_at_call 8; (with_reducible refine (BS.out _ _ _ K.out.r5).mono ?_); rintro e wz ⟨rfl, hz⟩; replace K := Aside0.mk (K.out.below hz.out); clear hz BS)
          | (go_at_call 12; (with_reducible refine (BC.out _ _ _ K.out.r5).mono ?_); rintro e wz ⟨rfl, hz⟩; replace K := Aside0.mk (K.out.below hz.out); clear hz BC)
          | (go_at_call 18; (with_reducible refine (BT.out _ _ _ K.out.r5).mono ?_); rintro e wz ⟨rfl, hz⟩; replace K := Aside0.mk (K.out.below hz.out); clear hz BT)
          | (go_at_call 23; (with_reducible refine (BA.out _ _ _ K.out.r5).mono ?_); rintro e wz ⟨A48, c48, rfl, hz⟩; have HU := Aside0.mk hz.out.1; replace K := Aside0.mk (K.out.below hz.out.2); clear hz BA))
        (try simp only [Act.put, List.setIfInBounds_toArray, List.set_cons_zero, List.set_cons_succ])
        go_cut [425] from 1 to 0 (fun v425 wc => v425 = .bool false ∧ Aside0 (laws_FnKinRelated.Bd w wc A5 A24 A26 A28 A30 c5 c24 c26 c28 c30 l C L))
        case first =>
         as_aux_lemma =>
          simp only [List.append]
          have h1 := Aside0.mk (F.out.fl1 rfl)
          have h2 := Aside0.mk (F.out.fl2 rfl)
          have h3 := Aside0.mk (F.out.fl3 rfl)
          have hx0 : (what.toList == ([115, 101, 108, 102] : List UInt8)) = decide (a = b) := (F.out.says rfl).x0.trans (F.out.e0 rfl)
          by_cases hab : a = b
          · have hab1 : decide (a = b) = true := decide_eq_true hab
            rw [hab1] at hx0
            obtain rfl : n9 = true := by rw [h3.out, hab1]; rfl
            have hab2 : (a == b) = true := beq_iff_eq.mpr hab
            clear h3 hab hab1
            cases sb with
            | false =>
              obtain rfl : hf = false := by
                cases hf with
                | false => rfl
                | true => exact absurd (h1.out rfl) (by decide)
              clear h1 h2
              cases cs with
              | false =>
                go_wp2_with (first
                  | (go_at_call 24; (with_reducible refine (TRC.out _ _ _ K.out.r24).mono ?_); rintro e wg ⟨rfl, hb⟩; replace HU := Aside0.mk (HU.out.below hb.out); replace K := Aside0.mk (K.out.below hb.out); clear hb)
                  | (go_at_call 25; (with_reducible refine (THU.out _ _ _ HU.out).mono ?_); rintro e wg ⟨rfl, hb⟩; replace HU := Aside0.mk (HU.out.below hb.out); replace K := Aside0.mk (K.out.below hb.out); clear hb))
                go_meet
                case rel => exact ⟨rfl, K⟩
              | true =>
                go_wp2_with (first
                  | (go_at_call 24; (with_reducible refine (TRC.out _ _ _ K.out.r24).mono ?_); rintro e wg ⟨rfl, hb⟩; replace HU := Aside0.mk (HU.out.below hb.out); replace K := Aside0.mk (K.out.below hb.out); clear hb)
                  | (go_at_call 25; (with_reducible refine (THU.out _ _ _ HU.out).mono ?_); rintro e wg ⟨rfl, hb⟩; replace HU := Aside0.mk (HU.out.below hb.out); replace K := Aside0.mk (K.out.below hb.out); clear hb))
                go_meet
                case rel => exact ⟨rfl, K⟩
            | true =>
              obtain rfl : cs = false := by
                cases cs with
                | false => rfl
                | true => exact absurd (h2.out rfl) (by decide)
              clear h1 h2
              cases hf with
              | false =>
                go_wp2_with (first
                  | (go_at_call 24; (with_reducible refine (TRC.out _ _ _ K.out.r24).mono ?_); rintro e wg ⟨rfl, hb⟩; replace HU := Aside0.mk (HU.out.below hb.out); replace K := Aside0.mk (K.out.below hb.out); clear hb)
                  | (go_at_call 25; (with_reducible refine (THU.out _ _ _ HU.out).mono ?_); rintro e wg ⟨rfl, hb⟩; replace HU := Aside0.mk (HU.out.below hb.out); replace K := Aside0.mk (K.out.below hb.out); clear hb))
                go_meet
                case rel => exact ⟨rfl, K⟩
              | true =>
                go_wp2_with (first
                  | (go_at_call 24; (with_reducible refine (TRC.out _ _ _ K.out.r24).mono ?_); rintro e wg ⟨rfl, hb⟩; replace HU := Aside0.mk (HU.out.below hb.out); replace K := Aside0.mk (K.out.below hb.out); clear hb)
                  | (go_at_call 25; (with_reducible refine (THU.out _ _ _ HU.out).mono ?_); rintro e wg ⟨rfl, hb⟩; replace HU := Aside0.mk (HU.out.below hb.out); replace K := Aside0.mk (K.out.below hb.out); clear hb))
                go_meet
                case rel => exact ⟨rfl, K⟩
          · have hab1 : decide (a = b) = false := decide_eq_false hab
            rw [hab1] at hx0
            obtain rfl : n9 = hs := by rw [h3.out, hab1]; rfl
            have hab2 : (a == b) = false := beq_eq_false_iff_ne.mpr hab
            clear h3 hab hab1
            cases n9 with
            | false =>
              cases sb with
              | false =>
                obtain rfl : hf = false := by
                  cases hf with
                  | false => rfl
                  | true => exact absurd (h1.out rfl) (by decide)
                clear h1 h2
                cases cs with
                | false =>
                  go_wp2_with (first
                    | (go_at_call 24; (with_reducible refine (TRC.out _ _ _ K.out.r24).mono ?_); rintro e wg ⟨rfl, hb⟩; replace HU := Aside0.mk (HU.out.below hb.out); replace K := Aside0.mk (K.out.below hb.out); clear hb)
                    | (go_at_call 25; (with_reducible refine (THU.out _ _ _ HU.out).mono ?_); rintro e wg ⟨rfl, hb⟩; replace HU := Aside0.mk (HU.out.below hb.out); replace K := Aside0.mk (K.out.below hb.out); clear hb))
                  go_meet
                  case rel => exact ⟨rfl, K⟩
                | true =>
                  go_wp2_with (first
                    | (go_at_call 24; (with_reducible refine (TRC.out _ _ _ K.out.r24).mono ?_); rintro e wg ⟨rfl, hb⟩; replace HU := Aside0.mk (HU.out.below hb.out); replace K := Aside0.mk (K.out.below hb.out); clear hb)
                    | (go_at_call 25; (with_reducible refine (THU.out _ _ _ HU.out).mono ?_); rintro e wg ⟨rfl, hb⟩; replace HU := Aside0.mk (HU.out.below hb.out); replace K := Aside0.mk (K.out.below hb.out); clear hb))
                  go_meet
                  case rel => exact ⟨rfl, K⟩
              | true =>
                obtain rfl : cs = false := by
                  cases cs with
                  | false => rfl
                  | true => exact absurd (h2.out rfl) (by decide)
                clear h1 h2
                cases hf with
                | false =>
                  go_wp2_with (first
                    | (go_at_call 24; (with_reducible refine (TRC.out _ _ _ K.out.r24).mono ?_); rintro e wg ⟨rfl, hb⟩; replace HU := Aside0.mk (HU.out.below hb.out); replace K := Aside0.mk (K.out.below hb.out); clear hb)
                    | (go_at_call 25; (with_reducible refine (THU.out _ _ _ HU.out).mono ?_); rintro e wg ⟨rfl, hb⟩; replace HU := Aside0.mk (HU.out.below hb.out); replace K := Aside0.mk (K.out.below hb.out); clear hb))
                  go_meet
                  case rel => exact ⟨rfl, K⟩
                | true =>
                  go_wp2_with (first
                    | (go_at_call 24; (with_reducible refine (TRC.out _ _ _ K.out.r24).mono ?_); rintro e wg ⟨rfl, hb⟩; replace HU := Aside0.mk (HU.out.below hb.out); replace K := Aside0.mk (K.out.below hb.out); clear hb)
                    | (go_at_call 25; (with_reducible refine (THU.out _ _ _ HU.out).mono ?_); rintro e wg ⟨rfl, hb⟩; replace HU := Aside0.mk (HU.out.below hb.out); replace K := Aside0.mk (K.out.below hb.out); clear hb))
                  go_meet
                  case rel => exact ⟨rfl, K⟩
            | true =>
              cases sb with
              | false =>
                obtain rfl : hf = false := by
                  cases hf with
                  | false => rfl
                  | true => exact absurd (h1.out rfl) (by decide)
                clear h1 h2
                cases cs with
                | false =>
                  go_wp2_with (first
                    | (go_at_call 24; (with_reducible refine (TRC.out _ _ _ K.out.r24).mono ?_); rintro e wg ⟨rfl, hb⟩; replace HU := Aside0.mk (HU.out.below hb.out); replace K := Aside0.mk (K.out.below hb.out); clear hb)
                    | (go_at_call 25; (with_reducible refine (THU.out _ _ _ HU.out).mono ?_); rintro e wg ⟨rfl, hb⟩; replace HU := Aside0.mk (HU.out.below hb.out); replace K := Aside0.mk (K.out.below hb.out); clear hb))
                  go_meet
                  case rel => exact ⟨rfl, K⟩
                | true =>
                  go_wp2_with (first
                    | (go_at_call 24; (with_reducible refine (TRC.out _ _ _ K.out.r24).mono ?_); rintro e wg ⟨rfl, hb⟩; replace HU := Aside0.mk (HU.out.below hb.out); replace K := Aside0.mk (K.out.below hb.out); clear hb)
                    | (go_at_call 25; (with_reducible refine (THU.out _ _ _ HU.out).mono ?_); rintro e wg ⟨rfl, hb⟩; replace HU := Aside0.mk (HU.out.below hb.out); replace K := Aside0.mk (K.out.below hb.out); clear hb))
                  go_meet
                  case rel => exact ⟨rfl, K⟩
              | true =>
                obtain rfl : cs = false := by
                  cases cs with
                  | false => rfl
                  | true => exact absurd (h2.out rfl) (by decide)
                clear h1 h2
                cases hf with
                | false =>
                  go_wp2_with (first
                    | (go_at_call 24; (with_reducible refine (TRC.out _ _ _ K.out.r24).mono ?_); rintro e wg ⟨rfl, hb⟩; replace HU := Aside0.mk (HU.out.below hb.out); replace K := Aside0.mk (K.out.below hb.out); clear hb)
                    | (go_at_call 25; (with_reducible refine (THU.out _ _ _ HU.out).mono ?_); rintro e wg ⟨rfl, hb⟩; replace HU := Aside0.mk (HU.out.below hb.out); replace K := Aside0.mk (K.out.below hb.out); clear hb))
                  go_meet
                  case rel => exact ⟨rfl, K⟩
                | true =>
                  go_wp2_with (first
                    | (go_at_call 24; (with_reducible refine (TRC.out _ _ _ K.out.r24).mono ?_); rintro e wg ⟨rfl, hb⟩; replace HU := Aside0.mk (HU.out.below hb.out); replace K := Aside0.mk (K.out.below hb.out); clear hb)
                    | (go_at_call 25; (with_reducible refine (THU.out _ _ _ HU.out).mono ?_); rintro e wg ⟨rfl, hb⟩; replace HU := Aside0.mk (HU.out.below hb.out); replace K := Aside0.mk (K.out.below hb.out); clear hb))
                  go_meet
                  case rel => exact ⟨rfl, K⟩
        case rest =>
         as_aux_lemma =>
          clear K HU TRC THU
          obtain ⟨rfl, K⟩ := hcut
          go_upto_region 30 with (fail)
          go_cut [478] from 1 to 0 (fun v478 wc => v478 = .bool false ∧ Aside0 (laws_FnKinRelated.Bd w wc A5 A24 A26 A28 A30 c5 c24 c26 c28 c30 l C L))
          case first =>
           as_aux_lemma =>
            have HS := Aside0.mk (F.out.says rfl)
            have HP := Aside0.mk (F.out.pat rfl)
            have hx1 := HS.out.x1
            have hx3 := HS.out.x3
            have hx4 := HS.out.x4
            have hx6 := HS.out.x6
            have hx7 := HS.out.x7
            have hx8 := HS.out.x8
            have hx12 := HS.out.x12
            have hy2 := HS.out.y2
            have hy3 := HS.out.y3
            have hy5 := HS.out.y5
            have hy6 := HS.out.y6
            have hy7 := HS.out.y7
            have hy8 := HS.out.y8
            have hy12 := HS.out.y12
            have HP2 := Aside0.mk (show _ from (by simpa only [laws_FnKinRelated.pats, List.mem_cons, List.cons.injEq, List.not_mem_nil, or_false, and_true] using HP.out))
            clear HS HP
            rcases HP2.out with ⟨rfl, rfl, rfl, rfl, rfl, rfl, rfl, rfl, rfl, rfl, rfl, rfl, rfl, rfl⟩ | ⟨rfl, rfl, rfl, rfl, rfl, rfl, rfl, rfl, rfl, rfl, rfl, rfl, rfl, rfl⟩ | ⟨rfl, rfl, rfl, rfl, rfl, rfl, rfl, rfl, rfl, rfl, rfl, rfl, rfl, rfl⟩ | ⟨rfl, rfl, rfl, rfl, rfl, rfl, rfl, rfl, rfl, rfl, rfl, rfl, rfl, rfl⟩ | ⟨rfl, rfl, rfl, rfl, rfl, rfl, rfl, rfl, rfl, rfl, rfl, rfl, rfl, rfl⟩ | ⟨rfl, rfl, rfl, rfl, rfl, rfl, rfl, rfl, rfl, rfl, rfl, rfl, rfl, rfl⟩ | ⟨rfl, rfl, rfl, rfl, rfl, rfl, rfl, rfl, rfl, rfl, rfl, rfl, rfl, rfl⟩ | ⟨rfl, rfl, rfl, rfl, rfl, rfl, rfl, rfl, rfl, rfl, rfl, rfl, rfl, rfl⟩ | ⟨rfl, rfl, rfl, rfl, rfl, rfl, rfl, rfl, rfl, rfl, rfl, rfl, rfl, rfl⟩
            all_goals clear HP2
            all_goals go_wp2
            all_goals go_meet
            all_goals (case rel => exact ⟨rfl, K⟩)
          case rest =>
           as_aux_lemma =>
            clear K
            obtain ⟨rfl, K⟩ := hcut
            go_upto_region 32 with (fail)
            go_cut [504] from 1 to 0 (fun v504 wc => v504 = .bool false ∧ Aside0 (laws_FnKinRelated.Bd w wc A5 A24 A26 A28 A30 c5 c24 c26 c28 c30 l C L))
            case first =>
             as_aux_lemma =>
              have HS := Aside0.mk (F.out.says rfl)
              have hx9 := HS.out.x9
              have hx12 := HS.out.x12
              have h4 := Aside0.mk (F.out.fl4 rfl)
              have h5 := Aside0.mk (F.out.fl5 rfl)
              have h6 := Aside0.mk (F.out.fl6 rfl)
              clear HS
              obtain ⟨cn, hcn⟩ : ∃ cn, C.length = cn := ⟨_, rfl⟩
              rw [hcn] at h4 h5 ⊢
              have HCN := Aside0.mk hcn
              clear hcn
              cases x9 with
              | false =>
                clear h6
                cases x12 with
                | false =>
                  clear h5
                  cases sb with
                  | false =>
                    clear h4
                    go_wp2
                    cases HCN.out
                    go_meet
                    case rel => exact ⟨rfl, K⟩
                  | true =>
                    have hc1 : ((cn : Int) == 0) = false := beq_eq_false_iff_ne.mpr (by have := h4.out rfl; omega)
                    clear h4
                    go_wp2
                    cases HCN.out
                    go_meet
                    case rel => exact ⟨rfl, K⟩
                | true =>
                  obtain rfl := (h5.out rfl).2
                  obtain rfl : sb = false := by
                    cases sb with
                    | false => rfl
                    | true => have := h4.out rfl; have := (h5.out rfl).1; omega
                  have hc1 : decide ((0 : Int) < (cn : Int)) = false := decide_eq_false (by have := (h5.out rfl).1; omega)
                  have hc2 : decide (0 < cn) = false := decide_eq_false (by have := (h5.out rfl).1; omega)
                  clear h4 h5
                  go_wp2
                  cases HCN.out
                  go_meet
                  case rel => exact ⟨rfl, K⟩
              | true =>
                obtain ⟨rfl, rfl, rfl⟩ := h6.out rfl
                clear h4 h5 h6
                go_wp2
                cases HCN.out
                go_meet
                case rel => exact ⟨rfl, K⟩
            case rest =>
             as_aux_lemma =>
              clear K
              obtain ⟨rfl, K⟩ := hcut
              go_wp2
              go_meet
              case rel => exact K
    case rest =>
     as_aux_lemma =>
      clear K
      have K := hcut
      clear hcut
      go_upto_if 505 with (fail)
      go_cut [] from 505 to 505 (fun wc => Aside0 (laws_FnKinRelated.Bd w wc A5 A24 A26 A28 A30 c5 c24 c26 c28 c30 l C L))
      case first =>
       as_aux_lemma =>
        clear TD2 TG3 TG4 TY1 TY2
        cases n9 with
        | false =>
          go_wp2
          go_meet
          case rel => exact K
        | true =>
          obtain ⟨hl0, hla, hlb, hst⟩ := F.out.line rfl
          have lL : L.length ≤ 2000 := F.out.lL
          have HROW := Aside0.mk (F.out.row rfl)
          obtain ⟨ad, e28, g0⟩ := K.out.r28.at 0 hl0
          subst e28
          obtain ⟨ad2, e28, g1⟩ := K.out.r28.at (L.length - 1) (by omega)
          obtain rfl := Option.some.inj e28
          clear e28
          rw [hlb] at g1
          rw [show ((0 : Nat) : Int) = 0 from rfl, hla, Addr.add_zero'] at g0
          go_upto_region 35 with (fail)
          go_cut [532] from 1 to 0 (fun v532 wc => v532 = .bool false ∧ Aside0 (laws_FnKinRelated.Bd w wc A5 A24 A26 (some ad) A30 c5 c24 c26 c28 c30 l C L))
          case first =>
           as_aux_lemma =>
            obtain ⟨m, hm⟩ : ∃ m, m = L.length - 1 := ⟨_, rfl⟩
            obtain ⟨ln, hln⟩ : ∃ ln, L.length = ln := ⟨_, rfl⟩
            rw [← hm] at g1
            rw [hln] at hm hst lL hl0 ⊢
            have h1 : ((ln : Int) == 0) = false := beq_eq_false_iff_ne.mpr (by omega)
            have h2 : (0 : Int) < (ln : Int) := by omega
            have h2b : 0 < ln := by omega
            have hw : IntKind.i64.wrap ((ln : Int) - 1) = (m : Int) := by rw [IntWalk.i64_in _ (by omega)]; omega
            have h3 : (m : Int) < (ln : Int) := by omega
            have h4 : decide ((m : Int) < st) = false := decide_eq_false (by omega)
            have h5 : (0 : Int) ≤ (m : Int) := by omega
            have h6 : m < ln := by omega
            have HLN := Aside0.mk hln
            clear hst lL HROW hl0 hla hlb hm hln
            go_wp2
            cases HLN.out
            go_meet
            case rel => exact ⟨rfl, K⟩
          case rest =>
           as_aux_lemma =>
            clear K g0 g1
            obtain ⟨rfl, K⟩ := hcut
            go_wp2
            go_loopg [50] L.length (fun gg s50 wr => ∃ i : Nat, s50 = .int .i64 (i : Int) ∧ 1 ≤ i ∧ i ≤ L.length ∧ L.length - i ≤ gg ∧ Aside0 (laws_FnKinRelated.Bd w wr A5 A24 A26 (some ad) A30 c5 c24 c26 c28 c30 l C L))
            case atStart => exact ⟨1, rfl, Nat.le_refl _, by omega, by omega, K⟩
            case round =>
              clear K
              obtain ⟨i, rfl, hi1, hi, hgg, K⟩ := hrel
              by_cases hlt : i < L.length
              · have hltz : (i : Int) < (L.length : Int) := by omega
                obtain ⟨ch, hch, hqh⟩ := HROW.out i hi1 hlt
                obtain ⟨ad3, e3, g0⟩ := K.out.r28.at (i - 1) (by omega)
                obtain rfl := Option.some.inj e3
                obtain ⟨ad4, e4, g1⟩ := K.out.r28.at i hlt
                obtain rfl := Option.some.inj e4
                clear e3 e4
                have TCH : Aside0 (∀ W A c, laws_FnKinRelated.RK W A c l → Calls Tryz.prog 26 #[.slice A l.length c, .int .i64 (rd L ((i - 1 : Nat) : Int))] W fun e w' => ∃ A' c', e = .returned (.tuple #[.slice A' ch.length c', .bool true]) ∧ Aside0 (laws_FnKinRelated.RI w' A' c' ch ∧ Below W.heap.size W w')) := ⟨fun W A c hK => (impl_ChildrenOf.calls k A c l _ ch true W hK.cs hK.len hch).mono fun e w' he => by
                  obtain ⟨v, rfl, h1, h2⟩ := he
                  obtain ⟨A, c, rfl, h3, h4⟩ := Kd.R_reads h1
                  exact ⟨A, c, rfl, ⟨⟨h3, h4⟩, h2⟩⟩⟩
                have TQH : Aside0 (∀ W A c, laws_FnKinRelated.RI W A c ch → Calls Tryz.prog 25 #[.slice A ch.length c, .int .i64 (rd L (i : Int))] W fun e w' => e = .returned (.bool true) ∧ Aside0 (Below W.heap.size W w')) := ⟨fun W A c h1 => (laws_qHas.calls k A c ch _ true W h1.cs h1.len hqh).mono fun e w' he => ⟨he.1, ⟨he.2.below⟩⟩⟩
                clear hch hqh
                have hw : IntKind.i64.wrap ((i : Int) - 1) = ((i - 1 : Nat) : Int) := by rw [IntWalk.i64_in _ (by omega)]; omega
                have hw2 : IntKind.i64.wrap ((i : Int) + 1) = ((i + 1 : Nat) : Int) := by rw [IntWalk.i64_in _ (by omega)]; omega
                obtain ⟨m, hm⟩ : ∃ m, m = i - 1 := ⟨_, rfl⟩
                have hm1 : m < L.length := by omega
                have hm2 : (m : Int) < (L.length : Int) := by omega
                rw [← hm] at g0 TCH hw
                clear hm
                generalize rd L (m : Int) = v0 at g0 TCH
                generalize rd L (i : Int) = v1 at g1 TQH
                go_wp2_with (first
                  | (go_at_call 26; (with_reducible refine (TCH.out _ _ _ K.out.r5).mono ?_); rintro e w3 ⟨A51, c51, rfl, h3⟩; replace K := Aside0.mk (K.out.below h3.out.2); have g2 := pw_cell_below h3.out.2 g1; have HC := Aside0.mk h3.out.1; clear h3)
                  | (go_at_call 25; (with_reducible refine (TQH.out _ _ _ HC.out).mono ?_); rintro e w4 ⟨rfl, h4⟩; replace K := Aside0.mk (K.out.below h4.out); clear h4))
                go_roundg (L.length - (i + 1))
                case measure => omega
                case rel => exact ⟨i + 1, by go_num, by omega, by omega, Nat.le_refl _, K⟩
              · have hltz : ¬ (i : Int) < (L.length : Int) := by omega
                go_wp2
                go_meet
                case rel => exact K
      case rest =>
       as_aux_lemma =>
        clear K
        have K := hcut
        clear hcut
        go_upto_region 43 with (fail)
        go_cut [588] from 1 to 0 (fun v588 wc => v588 = .bool false ∧ Aside0 (Below w.heap.size w wc))
        case first =>
         as_aux_lemma =>
          clear TD2 TG3 TG4 TY1 TY2
          cases n13 with
          | false =>
            go_wp2
            go_quiet (fail)
            go_wp2
            go_meet
            case rel => exact ⟨rfl, ⟨by first | exact K.out.bel | exact below_step K.out.bel (by first | exact pw_below_drewN (Below.refl _ _) _ | exact pw_below_drewN (pw_below_drewN (Below.refl _ _) _) _)⟩⟩
          | true =>
            obtain ⟨ha14, ha30, hag, hL2, hst1, ⟨a0, a1⟩, b0, b1⟩ := F.out.age rfl
            obtain ⟨ad, e1, ga0, -, -⟩ := at_T41 K.out.r5.cs a a0 a1
            subst e1
            obtain ⟨ad2, e2, gb0, -, -⟩ := at_T41 K.out.r5.cs b b0 b1
            obtain rfl := Option.some.inj e2
            obtain ⟨a, rfl⟩ := Int.eq_ofNat_of_zero_le a0
            obtain ⟨b, rfl⟩ := Int.eq_ofNat_of_zero_le b0
            rw [Int.toNat_natCast] at ga0 gb0
            generalize (rd_T41 l (a : Int)).f0 = va at ga0 hag
            generalize (rd_T41 l (b : Int)).f0 = vb at gb0 hag
            have hw : IntKind.i64.wrap (vb - va) = ag := by rw [hag]; exact IntWalk.i64_in _ (by omega)
            have h1 : decide (ag < 14) = false := decide_eq_false (by omega)
            have h2 : ((L.length : Int) == 2) = true := beq_iff_eq.mpr (by omega)
            have h2b : ((L.length : Int) != 2) = false := by rw [bne, h2]; rfl
            have h3 : (st == 1) = true := beq_iff_eq.mpr hst1
            have h3b : (st != 1) = false := by rw [bne, h3]; rfl
            have an : a < l.length := by omega
            have bn : b < l.length := by omega
            clear hag hL2 hst1 ha14 ha30
            go_wp2
            go_quiet (fail)
            go_wp2
            go_meet
            case rel => exact ⟨rfl, ⟨by first | exact K.out.bel | exact below_step K.out.bel (by first | exact pw_below_drewN (Below.refl _ _) _ | exact pw_below_drewN (pw_below_drewN (Below.refl _ _) _) _)⟩⟩
        case rest =>
         as_aux_lemma =>
          clear K
          obtain ⟨rfl, HB⟩ := hcut
          go_upto_region 50 with (first
            | (go_at_call 27; (with_reducible refine (TD2.out _ HB.out).mono ?_); rintro e wz ⟨A53, c53, rfl, hz⟩; replace HB := Aside0.mk (below_step HB.out hz.out.2); have C53 := Aside0.mk hz.out.1; clear hz TD2)
            | (go_at_call 20; (with_reducible refine (TG3.out _ _ _ C53.out).mono ?_); rintro e wz ⟨rfl, hz⟩; replace HB := Aside0.mk (below_step HB.out hz.out); replace C53 := Aside0.mk (C53.out.below hz.out); clear hz TG3)
            | (go_at_call 21; (with_reducible refine (TG4.out _ _ _ C53.out).mono ?_); rintro e wz ⟨rfl, hz⟩; replace HB := Aside0.mk (below_step HB.out hz.out); replace C53 := Aside0.mk (C53.out.below hz.out); clear hz TG4)
            | (go_at_call 28; (with_reducible refine (TY1.out _ _ _ C53.out).mono ?_); rintro e wz ⟨rfl, hz⟩; replace HB := Aside0.mk (below_step HB.out hz.out); replace C53 := Aside0.mk (C53.out.below hz.out); clear hz TY1)
            | (go_at_call 29; (with_reducible refine (TY2.out _ _ _ C53.out).mono ?_); rintro e wz ⟨rfl, hz⟩; replace HB := Aside0.mk (below_step HB.out hz.out); replace C53 := Aside0.mk (C53.out.below hz.out); clear hz TY2))
          (try simp only [Act.put, List.setIfInBounds_toArray, List.set_cons_zero, List.set_cons_succ])
          have hgh := Aside0.mk F.out.gh
          have hls := Aside0.mk F.out.lst
          cases yh with
          | false =>
            obtain rfl : g = false := by
              cases g with
              | false => rfl
              | true => exact absurd (hgh.out rfl) (by decide)
            clear hgh hls
            go_wp2
            go_ret
            exact ⟨rfl, HB.out⟩
          | true =>
            obtain ⟨hl1, hl2⟩ := hls.out rfl
            have TG5 : Aside0 (∀ W A c, laws_FnKinRelated.RK W A c u → Calls Tryz.prog 20 #[.slice A u.length c, .int .i64 p1, .int .i64 p2] W fun e w' => e = .returned (.tuple #[.int .i64 ls, .bool true]) ∧ Aside0 (Below W.heap.size W w')) := ⟨fun W A c hK => (impl_AgeAtBirth.calls k A c u p1 p2 ls true W hK.cs hK.len hl1).mono fun e w' he => ⟨he.1, ⟨he.2⟩⟩⟩
            clear hl1 hgh hls
            cases g with
            | false =>
              clear hl2
              go_wp2_with (go_at_call 20; (with_reducible refine (TG5.out _ _ _ C53.out).mono ?_); rintro e wz ⟨rfl, hz⟩; replace HB := Aside0.mk (below_step HB.out hz.out); clear hz)
              go_ret
              exact ⟨rfl, HB.out⟩
            | true =>
              have hle : ¬ yo < ls := by have := hl2 rfl; omega
              clear hl2
              go_wp2_with (go_at_call 20; (with_reducible refine (TG5.out _ _ _ C53.out).mono ?_); rintro e wz ⟨rfl, hz⟩; replace HB := Aside0.mk (below_step HB.out hz.out); clear hz)
              go_ret
              exact ⟨rfl, HB.out⟩

/-- THE ONE PURE STATEMENT of laws_FnKinRelated: yours. -/
def laws_FnKinRelated.Pure : Prop := ∀ (l0 : List Int) (l1 : List Int), l0.length ≤ maxLen → l0.length * 1 ≤ 140737488351232 → (∀ x ∈ l0, (Lit.int .u8 x).wf = true) → l1.length ≤ maxLen → l1.length * 1 ≤ 140737488351232 → (∀ x ∈ l1, (Lit.int .u8 x).wf = true) → ∃ k, laws_FnKinRelated.f k l0 l1 = some true
theorem laws_FnKinRelated.walk (P : laws_FnKinRelated.Pure) (a0 : Option Addr) (len0 cap0 : Nat) (z0 : List Int) (a1 : Option Addr) (len1 cap1 : Nat) (z1 : List Int) (w : World) (w0 : (a0 = none ∧ len0 = 0 ∧ cap0 = 0 ∧ z0 = []) ∨ ∃ x, a0 = some x ∧ len0 ≤ cap0 ∧ cap0 ≤ maxLen ∧ z0.length = cap0 ∧ (∀ i, i < z0.length → w.cell? (x.add i) = some (.int .u8 (z0.getD i 0))) ∧ ∀ n ∈ z0, (Lit.int .u8 n).wf = true) (y0 : len0 * 1 ≤ 140737488351232) (w1 : (a1 = none ∧ len1 = 0 ∧ cap1 = 0 ∧ z1 = []) ∨ ∃ x, a1 = some x ∧ len1 ≤ cap1 ∧ cap1 ≤ maxLen ∧ z1.length = cap1 ∧ (∀ i, i < z1.length → w.cell? (x.add i) = some (.int .u8 (z1.getD i 0))) ∧ ∀ n ∈ z1, (Lit.int .u8 n).wf = true) (y1 : len1 * 1 ≤ 140737488351232) :
    Calls Tryz.prog 3 #[.slice a0 len0 cap0, .slice a1 len1 cap1] w fun e w' => e = .returned (.bool true) ∧ Below w.heap.size w w' := by
  obtain ⟨l0, rfl, hr0, hm0, hw0, hc0⟩ := ReadsInt.ofRowC w0
  obtain ⟨l1, rfl, hr1, hm1, hw1, hc1⟩ := ReadsInt.ofRowC w1
  obtain ⟨k, h⟩ := P l0 l1 hm0 y0 hw0 hm1 y1 hw1
  refine (laws_FnKinRelated.calls k _ _ l0 _ _ l1 true w (Kd.C_of_reads (d := (0 : Int)) (h1 := fun _ => rfl) hr0) hc0 (Kd.C_of_reads (d := (0 : Int)) (h1 := fun _ => rfl) hr1) hc1 h).mono ?_
  rintro e w' ⟨rfl, hd⟩
  exact ⟨rfl, hd⟩

end Go.Proofs.YtllihaahppelhaaGreat.P
