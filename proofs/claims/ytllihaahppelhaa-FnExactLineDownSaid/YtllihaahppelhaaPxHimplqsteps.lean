/- Calls of the functions of the given program return what the plain Lean functions of the same names return; and a row of a law out of its pure statement. Written by a program of this session out of the translation; Lean checks it. No condition. -/
import Derived.Test.YtllihaahppelhaaPx0
import Derived.Test.YtllihaahppelhaaPxHslicesqRepeatqintqint
import Derived.Test.YtllihaahppelhaaHlp
import Derived.Shelf.Abstract
namespace Go.Proofs.Ytllihaahppelhaa.P
open Go.RowKit Go.Proofs.YtllihaahppelhaaW.PrintWords Go.Proofs.YtllihaahppelhaaW.PrintLast Go.Proofs.YtllihaahppelhaaW.PrintMore
attribute [local go_sem] max2_int min2_int max_two min_two max_three min_three max_four min_four   -- for this text's walks alone
set_option linter.unusedVariables false
set_option linter.unusedSimpArgs false

/-! ### impl_steps: function 45, by hand -/
-- IMPORT Derived.Test.YtllihaahppelhaaHlp
-- IMPORT Derived.Shelf.Abstract
/-- What somebody's neighbours turn in the table and the queue. -/
def impl_steps.inn (i : Int) : List Int → List Int → List Int → Option (List Int × List Int)
  | [], out, qu => some (out, qu)
  | y :: ks, out, qu => if 0 ≤ y ∧ y < (out.length : Int) then (if rd out y < 0 then (if (0 ≤ rd qu i ∧ rd qu i < (out.length : Int)) ∧ (0 ≤ rd out (rd qu i) ∧ rd out (rd qu i) ≤ 100000) ∧ qu.length < 100000 then impl_steps.inn i ks (out.set y.toNat (rd out (rd qu i) + 1)) (qu ++ [y]) else none) else impl_steps.inn i ks out qu) else none
def impl_steps.lp (nx : Int → Option (List Int)) : Nat → List Int → List Int → Nat → Option (List Int)
  | 0, _, _, _ => none
  | k + 1, out, qu, i => if i < qu.length then (nx (rd qu (i : Int))).bind fun ks => (impl_steps.inn (i : Int) ks out qu).bind fun s => impl_steps.lp nx k s.1 s.2 (i + 1) else some out
def impl_steps.g (nx : Int → Option (List Int)) (k n : Nat) (from_ : Int) : Option (List Int) :=
  if (1 ≤ n ∧ n ≤ 1000) ∧ 0 ≤ from_ ∧ from_ < (n : Int) then impl_steps.lp nx k ((List.replicate n (-1 : Int)).set from_.toNat 0) [from_] 0 else none
theorem impl_steps.inn_len (i : Int) (ks : List Int) : ∀ (out qu : List Int) (s : List Int × List Int), impl_steps.inn i ks out qu = some s → s.1.length = out.length ∧ qu.length ≤ s.2.length := by
  induction ks with
  | nil => intro out qu s h; simp only [impl_steps.inn, Option.some.injEq] at h; subst h; exact ⟨rfl, Nat.le_refl _⟩
  | cons y ks ih =>
    intro out qu s h
    simp only [impl_steps.inn] at h
    split at h
    · split at h
      · split at h
        · have := ih _ _ s h
          rw [List.length_set, List.length_append, List.length_singleton] at this
          omega
        · cases h
      · exact ih _ _ s h
    · cases h
/-- What the table (in block g1) and the queue are, between two rounds. -/
structure impl_steps.St (w wr : World) (g1 c1 n : Nat) (A8 : Option Addr) (c8 : Nat) (out qu : List Int) : Prop where
  len : out.length = n
  few : qu.length ≤ 100000
  row : Kd.R (Kd.int .i64) 3 wr w.heap.size (fun _ => True) (.slice (some ⟨g1, 0, none⟩) n c1) out
  que : Kd.R (Kd.int .i64) 3 wr w.heap.size (fun _ => True) (.slice A8 qu.length c8) qu
  ne : (Value.slice A8 qu.length c8).ownBlock ≠ some g1
  lt : g1 < wr.heap.size
  bel : Below w.heap.size w wr
section
variable {w wr W : World} {g1 c1 n : Nat} {A8 : Option Addr} {c8 : Nat} {out qu : List Int}
theorem impl_steps.St.next (h : impl_steps.St w wr g1 c1 n A8 c8 out qu) (hb : Below wr.heap.size wr W) : impl_steps.St w W g1 c1 n A8 c8 out qu :=
  ⟨h.len, h.few, Kd.R_below h.row hb, Kd.R_below h.que hb, h.ne, Nat.lt_of_lt_of_le h.lt hb.size, below_step h.bel hb⟩
theorem impl_steps.St.at_q (h : impl_steps.St w wr g1 c1 n A8 c8 out qu) (i : Nat) (hi : i < qu.length) : ∃ ad, A8 = some ad ∧ wr.cell? (ad.add i) = some (.int .i64 (rd qu (i : Int))) := by
  obtain ⟨ad, e, hc⟩ := Hlp.int_at (Kd.R_reads' h.que).2.2 i hi
  refine ⟨ad, e, ?_⟩
  rw [hc]
  simp [rd, List.getD_eq_getElem?_getD, List.getElem?_eq_getElem hi]
theorem impl_steps.St.at_o (h : impl_steps.St w wr g1 c1 n A8 c8 out qu) (y : Nat) (hy : y < n) : wr.cell? ⟨g1, y, none⟩ = some (.int .i64 (rd out (y : Int))) ∧ wr.frozen? ⟨g1, y, none⟩ = false := by
  have := Kd.R_celln (0 : Int) h.row (y : Int) (by omega) (by omega)
  rw [Int.toNat_natCast] at this
  exact this
theorem impl_steps.St.put (h : impl_steps.St w wr g1 c1 n A8 c8 out qu) (y : Nat) (v : Int) : impl_steps.St w (wr.setCell ⟨g1, y, none⟩ (.int .i64 v)) g1 c1 n A8 c8 (out.set y v) qu := by
  have hp := Kd.R_putg h.row (y : Int) v
  rw [Int.toNat_natCast] at hp
  exact ⟨by rw [List.length_set]; exact h.len, h.few, hp.1, Kd.R_grown1 h.que rfl hp.2 (fun e => h.ne e.symm), h.ne, by simpa [World.setCell] using h.lt, below_set h.bel (Kd.R_base h.row g1 (by simp [Value.ownBlock]))⟩
theorem impl_steps.St.app (h : impl_steps.St w wr g1 c1 n A8 c8 out qu) (y : Int) (hf : qu.length < 100000) (v1 : Value) (hR : Kd.R (Kd.int .i64) 3 W w.heap.size (fun _ => True) v1 (qu ++ [y])) (hB : Below w.heap.size w W) (hg : wr.grownBy W (Value.slice A8 qu.length c8).ownBlock)
    (hat : v1.ownBlock = (Value.slice A8 qu.length c8).ownBlock ∨ ∃ b, v1.ownBlock = some b ∧ wr.heap.size ≤ b) : ∃ A9 c9, v1 = .slice A9 (qu ++ [y]).length c9 ∧ impl_steps.St w W g1 c1 n A9 c9 out (qu ++ [y]) := by
  obtain ⟨A9, c9, rfl⟩ := Kd.R_slice hR
  refine ⟨A9, c9, rfl, h.len, by rw [List.length_append, List.length_singleton]; omega, Kd.R_grown1 h.row rfl hg (fun e => h.ne (e.trans rfl)), hR, ?_, Nat.lt_of_lt_of_le h.lt hg.size, hB⟩
  rcases hat with hat | ⟨b, hb, hle⟩
  · rw [hat]; exact h.ne
  · rw [hb]
    intro e
    injection e with e
    have := h.lt
    omega
end
set_option maxHeartbeats 8000000 in
set_option maxRecDepth 100000 in
theorem impl_steps.any (nx : Int → Option (List Int)) (k : Nat) (g : Nat) (lb : Array Value) (eg : ∀ args w, (callFunc g args).run Try.prog w = .ok (.enter g args) w) (A0 : Option Addr) (n c0 : Nat) (from_ : Int) (r : List Int) (w : World)
    (hn : ∀ x ks, nx x = some ks → ∀ W, Below w.heap.size w W → Calls Try.prog g (#[.int .i64 x] ++ lb) W fun e w' => ∃ v : Value, e = .returned v ∧ Kd.R (Kd.int .i64) 3 w' W.heap.size (fun _ => True) v ks ∧ Below W.heap.size W w')
    (h : impl_steps.g nx k n from_ = some r) :
    Calls Try.prog 45 #[.slice A0 n c0, .int .i64 from_, .func (.func g) #[] lb] w fun e w' => ∃ v0_ : Value, e = .returned v0_ ∧ Kd.R (Kd.int .i64) 3 w' w.heap.size (fun _ => True) v0_ r ∧ Below w.heap.size w w' := by
  unfold impl_steps.g at h
  have hc : (1 ≤ n ∧ n ≤ 1000) ∧ 0 ≤ from_ ∧ from_ < (n : Int) := by
    split at h
    · assumption
    · cases h
  rw [if_pos hc] at h
  obtain ⟨⟨hn1, hn2⟩, hf1, hf2⟩ := hc
  obtain ⟨m, rfl⟩ := Int.eq_ofNat_of_zero_le hf1
  have hmn : m < n := by omega
  rw [Int.toNat_natCast] at h
  -- the table is made
  have hb0 : Below w.heap.size w (w.alloc (.cells #[.int .i64 (-1)] 3)) := (Below.refl _ w).alloc (Nat.le_refl _) _
  have hlit := own_lit w w.heap.size 3 .i64 [-1] (Nat.le_refl _) (by simp)
  have hC0 : Kd.C (Kd.int .i64) (w.alloc (.cells #[.int .i64 (-1)] 3)) (some ⟨w.heap.size, 0, none⟩) ([-1] : List Int).length [-1] := Kd.C_of_reads (d := (0 : Int)) (h1 := fun _ => rfl) (own_reads' hlit)
  have hrep := slices_Repeat_int_int.calls (some ⟨w.heap.size, 0, none⟩) 1 [-1] (n : Int) (List.replicate n (-1)) (w.alloc (.cells #[.int .i64 (-1)] 3)) hC0 (by simp) (by
    unfold slices_Repeat_int_int.f
    rw [if_pos (by rfl), if_pos (by omega), if_pos (by omega), Int.toNat_natCast]
    rfl)
  have HREP : Aside0 (Calls Try.prog 71 #[.slice (some ⟨w.heap.size, 0, none⟩) 1 1, .int .i64 (n : Int)] (w.alloc (.cells #[.int .i64 (-1)] 3)) fun e w' => ∃ g1 c1, e = .returned (.slice (some ⟨g1, 0, none⟩) n c1) ∧ w'.cell? ⟨g1, m, none⟩ = some (.int .i64 (-1)) ∧ w'.frozen? ⟨g1, m, none⟩ = false ∧
      Aside0 (w.heap.size ≤ g1 ∧ g1 < w'.heap.size ∧ Kd.R (Kd.int .i64) 3 w' w.heap.size (fun _ => True) (.slice (some ⟨g1, 0, none⟩) n c1) (List.replicate n (-1)) ∧ Below w.heap.size w w')) := ⟨hrep.mono fun e w' he => by
    obtain ⟨v, rfl, hR, hb⟩ := he
    have hR1 : Kd.R (Kd.int .i64) 3 w' w.heap.size (fun _ => True) v (List.replicate n (-1)) := Kd.R_lower hR (by simp)
    obtain ⟨g1, c1, rfl, h1, h2, _⟩ := Kd.R_form hR1 (by simp; omega)
    rw [List.length_replicate] at hR1 ⊢
    have hcell := Kd.R_celln (0 : Int) hR1 (m : Int) (by omega) (by omega)
    rw [Int.toNat_natCast] at hcell
    refine ⟨g1, c1, rfl, ?_, hcell.2, ⟨h1, h2, hR1, hb0.trans (hb.mono (by simp))⟩⟩
    rw [hcell.1]
    simp [rdOf, List.getD_eq_getElem?_getD, hmn]⟩
  clear hrep hC0 hlit hb0
  have HN := Aside0.mk hn
  have HH := Aside0.mk h
  have hlt1 : (m : Int) < (n : Int) := by omega
  clear hn h hf1 hf2
  go_enter Try.func45, Try.ntmps45
  go_wp2_with (first | (go_at_call 71; refine HREP.out.mono ?_; rintro e w1 ⟨g1, c1, rfl, hcl, hfz, hR⟩; clear HREP))
  have HS0 := Aside0.mk (show impl_steps.St w ((w1.setCell ⟨g1, m, none⟩ (.int .i64 0)).alloc (.cells #[.int .i64 (m : Int)] 3)) g1 c1 n (some ⟨w1.heap.size, 0, none⟩) 1 ((List.replicate n (-1)).set m 0) [(m : Int)] from by
    obtain ⟨h1, h2, h3, h4⟩ := hR.out
    have hp := Kd.R_putg h3 (m : Int) (0 : Int)
    rw [Int.toNat_natCast] at hp
    have hsz : (w1.setCell ⟨g1, m, none⟩ (.int .i64 0)).heap.size = w1.heap.size := by simp [World.setCell]
    have hB1 : Below w.heap.size w (w1.setCell ⟨g1, m, none⟩ (.int .i64 0)) := below_set h4 h1
    have hl := own_lit (w1.setCell ⟨g1, m, none⟩ (.int .i64 0)) w.heap.size 3 .i64 [(m : Int)] (by rw [hsz]; exact h4.size) (by simp)
    rw [hsz] at hl
    exact ⟨by simp, by simp, Kd.R_alloc hp.1 _, Kd.R_of_own (by simpa [encs, nums] using hl) (fun _ _ => trivial), by simp [Value.ownBlock]; omega, by simp [World.setCell]; omega, below_alloc hB1 _⟩)
  clear hR hcl hfz
  go_loopg [8, 9] k (fun gg s8 s9 wr => ∃ (out qu : List Int) (i : Nat) (A8 : Option Addr) (c8 : Nat), s8 = .slice A8 qu.length c8 ∧ s9 = .int .i64 (i : Int) ∧ Aside0 (impl_steps.lp nx gg out qu i = some r) ∧ Aside0 (impl_steps.St w wr g1 c1 n A8 c8 out qu))
  case atStart => exact ⟨_, _, 0, _, _, rfl, rfl, HH, HS0⟩
  case round =>
    obtain ⟨out, qu, i, A8, c8, rfl, rfl, HL, HS⟩ := hrel
    clear HS0 HH
    cases gk with
    | zero => exact absurd HL.out (by simp [impl_steps.lp])
    | succ kf =>
    have hl := HL.out
    simp only [impl_steps.lp] at hl
    by_cases hi : i < qu.length
    · rw [if_pos hi] at hl
      obtain ⟨ks, hks, hl⟩ := Option.bind_eq_some_iff.1 hl
      have hiz : (i : Int) < (qu.length : Int) := by omega
      obtain ⟨ad, e8, hcq⟩ := HS.out.at_q i hi
      subst e8
      have hcall := HN.out _ _ hks wr HS.out.bel
      generalize hqi : rd qu (i : Int) = x at hcq hcall
      have HX := Aside0.mk hqi
      have HI := Aside0.mk hi
      have HJ := Aside0.mk hl
      have HC := Aside0.mk hcall
      have hil : (i : Int) + 1 ≤ 9223372036854775807 := by have := HS.out.few; omega
      clear hl hqi hks HL hcall hi
      go_wp2_with (go_at_fn g; refine HC.out.mono ?_; rintro e w2 ⟨v2, rfl, hR2, hb2⟩; obtain ⟨A32, c32, e32⟩ := Kd.R_slice hR2; subst e32; have HK2 := Aside0.mk hR2; have HB2 := Aside0.mk hb2; clear hR2 hb2 HC hcq)
      have HS2 := Aside0.mk (HS.out.next HB2.out)
      have HNE := Aside0.mk (show NeRow (.slice A32 ks.length c32) (.slice (some ad) qu.length c8) ∧ (Value.slice A32 ks.length c32).ownBlock ≠ some g1 from by
        refine ⟨fun b hb hb' => ?_, fun e => ?_⟩
        · have h1 := Kd.R_base HK2.out b hb
          have h2 := Kd.R_lt HS.out.que b hb'
          omega
        · have h1 := Kd.R_base HK2.out g1 e
          have h2 := HS.out.lt
          omega)
      have HK3 := Aside0.mk (show Kd.R (Kd.int .i64) 3 w2 0 (fun _ => True) (.slice A32 ks.length c32) ks from Kd.R_lower HK2.out (Nat.zero_le _))
      clear HS HK2 HB2
      go_loopg [8, 34] ks.length (fun gg s8 s34 wr => ∃ (out qu : List Int) (j : Nat) (A8 : Option Addr) (c8 : Nat), s8 = .slice A8 qu.length c8 ∧ s34 = .int .i64 (j : Int) ∧ j ≤ ks.length ∧ ks.length - j ≤ gg ∧ Aside0 (i < qu.length ∧ rd qu (i : Int) = x) ∧ Aside0 ((impl_steps.inn (i : Int) (ks.drop j) out qu).bind (fun s => impl_steps.lp nx kf s.1 s.2 (i + 1)) = some r) ∧ Aside0 (impl_steps.St w wr g1 c1 n A8 c8 out qu) ∧
        Aside0 (Kd.R (Kd.int .i64) 3 wr 0 (fun _ => True) (.slice A32 ks.length c32) ks) ∧ Aside0 (NeRow (.slice A32 ks.length c32) (.slice A8 qu.length c8) ∧ (Value.slice A32 ks.length c32).ownBlock ≠ some g1))
      case atStart => exact ⟨out, qu, 0, some ad, c8, rfl, rfl, Nat.zero_le _, by omega, ⟨HI.out, HX.out⟩, HJ, HS2, HK3, HNE⟩
      case round =>
        obtain ⟨out, qu, j, A8, c8, rfl, rfl, hj, hgg, HI, HL, HS, HK, HN2⟩ := hrel
        clear HS2 HK3 HNE HJ HX
        by_cases hjl : j < ks.length
        · have hjz : (j : Int) < (ks.length : Int) := by omega
          have hjb : (j : Int) + 1 ≤ 9223372036854775807 := by have := Kd.C_max (Kd.R_reads' HK.out).2.2; omega
          obtain ⟨ak, ek, hck⟩ := Hlp.int_at (Kd.R_reads' HK.out).2.2 j hjl
          have hl := HL.out
          rw [List.drop_eq_getElem_cons hjl] at hl
          simp only [impl_steps.inn] at hl
          obtain ⟨s, hs, hl⟩ := Option.bind_eq_some_iff.1 hl
          have hy : 0 ≤ ks[j] ∧ ks[j] < (out.length : Int) := by
            split at hs
            · assumption
            · cases hs
          rw [if_pos hy] at hs
          generalize hyk : ks[j] = y at hy hs hck
          obtain ⟨y, rfl⟩ := Int.eq_ofNat_of_zero_le hy.1
          have hyn : y < n := by have := HS.out.len; omega
          have hynz : (y : Int) < (n : Int) := by omega
          obtain ⟨hco, hfo⟩ := HS.out.at_o y hyn
          subst ek
          by_cases hneg : rd out (y : Int) < 0
          · rw [if_pos hneg] at hs
            have hq : (0 ≤ rd qu (i : Int) ∧ rd qu (i : Int) < (out.length : Int)) ∧ (0 ≤ rd out (rd qu (i : Int)) ∧ rd out (rd qu (i : Int)) ≤ 100000) ∧ qu.length < 100000 := by
              split at hs
              · assumption
              · cases hs
            rw [if_pos hq] at hs
            obtain ⟨adq, e8, hcq⟩ := HS.out.at_q i HI.out.1
            subst e8
            have hiz : (i : Int) < (qu.length : Int) := by have := HI.out.1; omega
            generalize hqi : rd qu (i : Int) = q at hq hs hcq
            obtain ⟨⟨hq1, hq2⟩, ⟨hd1, hd2⟩, hqf⟩ := hq
            obtain ⟨q, rfl⟩ := Int.eq_ofNat_of_zero_le hq1
            have hqn : q < n := by have := HS.out.len; omega
            have hqnz : (q : Int) < (n : Int) := by omega
            obtain ⟨hcd, _⟩ := HS.out.at_o q hqn
            generalize hdv : rd out (q : Int) = d at hd1 hd2 hcd hs
            generalize hov : rd out (y : Int) = o at hneg hco
            have HHS := Aside0.mk hs
            have HHL := Aside0.mk hl
            have HQI := Aside0.mk hqi
            have HQF := Aside0.mk hqf
            have HSP := Aside0.mk (HS.out.put y (d + 1))
            rw [Int.toNat_natCast] at HHS
            clear hs hl hqi hdv hov HL hyk hq2 hyn hqn hy
            go_wp2_with (first | ((with_reducible refine gate_builtin (b := .append) (xs := #[.tmp 54, .tmp 56]) rfl ?_); at_builtin; refine Kd.R_append (Kd.int .i64) (w0 := w) w.heap.size rfl (.tmp 54) (.tmp 56) 37 3 (.int .i64 0) 8 rfl Try.underlying37 info3 rfl (by decide) (by omega) (.slice (some adq) qu.length c8) qu (y : Int) [.int .i64 (y : Int)] (fun _ => True) (fun _ => False) rfl (by first | (go_simp; done) | (go_simp; rfl)) rfl (fun _ hk => hk.elim) (fun _ _ => trivial) HSP.out.que HSP.out.bel HSP.out.bel.size (by have := HQF.out; omega) ?_; intro v3 w3 ho hb hg hat; have HO3 := Aside0.mk ho; have HB3 := Aside0.mk hb; have HG3 := Aside0.mk hg; have HAT := Aside0.mk hat; clear ho hb hg hat))
            obtain ⟨A9, c9, e9, hs9⟩ := HSP.out.app (y : Int) HQF.out v3 HO3.out HB3.out HG3.out HAT.out
            subst e9
            have hp := (Kd.R_putg HS.out.row (y : Int) (d + 1)).2
            rw [Int.toNat_natCast] at hp
            have HKP := Aside0.mk (Kd.R_grown1 HK.out rfl hp (fun e => HN2.out.2 e.symm))
            clear hp
            go_roundg (ks.length - (j + 1))
            case measure => omega
            case rel =>
              refine ⟨out.set y (d + 1), qu ++ [(y : Int)], j + 1, A9, c9, rfl, by go_num, by omega, by omega, ⟨?_, ?_⟩, ⟨?_⟩, ⟨hs9⟩, ⟨Kd.R_grown2 HKP.out rfl HG3.out (fun b hb e => HN2.out.1 b e.symm hb)⟩, ⟨ne_append' HN2.out.1 HAT.out (Kd.own_of_R HKP.out), HN2.out.2⟩⟩
              · rw [List.length_append]; have := HI.out.1; omega
              · rw [← HI.out.2]
                simp [rd, List.getD_eq_getElem?_getD, List.getElem?_append_left HI.out.1]
              · rw [HHS.out]; exact HHL.out
          · rw [if_neg hneg] at hs
            have HHL := Aside0.mk (show (impl_steps.inn (i : Int) (ks.drop (j + 1)) out qu).bind (fun s => impl_steps.lp nx kf s.1 s.2 (i + 1)) = some r by rw [hs]; exact hl)
            generalize hov : rd out (y : Int) = o at hneg hco
            clear hs hl hov HL hyk hyn hy
            go_wp2
            go_roundg (ks.length - (j + 1))
            case measure => omega
            case rel => exact ⟨out, qu, j + 1, A8, c8, rfl, by go_num, by omega, by omega, HI, HHL, HS, HK, HN2⟩
        · have hjz : ¬ (j : Int) < (ks.length : Int) := by omega
          have HHL := Aside0.mk (show impl_steps.lp nx kf out qu (i + 1) = some r by
            have hl := HL.out
            rw [List.drop_eq_nil_of_le (by omega)] at hl
            exact hl)
          clear HL
          go_wp2
          go_roundg kf
          case measure => omega
          case rel => exact ⟨out, qu, i + 1, A8, c8, rfl, by go_num, HHL, HS⟩
    · rw [if_neg hi] at hl
      obtain rfl := Option.some.inj hl
      have hiz : ¬ (i : Int) < (qu.length : Int) := by omega
      clear hl
      go_wp2
      go_ret
      exact ⟨_, rfl, HS.out.row, HS.out.bel⟩
theorem impl_steps.lp_mono (nx nx' : Int → Option (List Int)) (hn : ∀ x r, nx x = some r → nx' x = some r) (k : Nat) : ∀ (out qu : List Int) (i : Nat) (r : List Int), impl_steps.lp nx k out qu i = some r → impl_steps.lp nx' (k + 1) out qu i = some r := by
  induction k with
  | zero => intro out qu i r h; simp [impl_steps.lp] at h
  | succ k ih =>
    intro out qu i r h
    rw [impl_steps.lp] at h ⊢
    by_cases hi : i < qu.length
    · rw [if_pos hi] at h ⊢
      obtain ⟨ks, h1, h⟩ := Option.bind_eq_some_iff.1 h
      obtain ⟨s, h2, h⟩ := Option.bind_eq_some_iff.1 h
      rw [hn _ _ h1, Option.bind_some, h2, Option.bind_some]
      exact ih _ _ _ _ h
    · rw [if_neg hi] at h ⊢
      exact h
theorem impl_steps.g_mono (nx nx' : Int → Option (List Int)) (hn : ∀ x r, nx x = some r → nx' x = some r) (k n : Nat) (from_ : Int) (r : List Int) (h : impl_steps.g nx k n from_ = some r) : impl_steps.g nx' (k + 1) n from_ = some r := by
  unfold impl_steps.g at h ⊢
  split at h
  · rename_i hc
    rw [if_pos hc]
    exact impl_steps.lp_mono nx nx' hn k _ _ _ _ h
  · cases h
theorem impl_steps.lp_len (nx : Int → Option (List Int)) (k : Nat) : ∀ (out qu : List Int) (i : Nat) (r : List Int), impl_steps.lp nx k out qu i = some r → r.length = out.length := by
  induction k with
  | zero => intro out qu i r h; simp [impl_steps.lp] at h
  | succ k ih =>
    intro out qu i r h
    rw [impl_steps.lp] at h
    by_cases hi : i < qu.length
    · rw [if_pos hi] at h
      obtain ⟨ks, h1, h⟩ := Option.bind_eq_some_iff.1 h
      obtain ⟨s, h2, h⟩ := Option.bind_eq_some_iff.1 h
      rw [ih _ _ _ _ h, (impl_steps.inn_len _ _ _ _ _ h2).1]
    · rw [if_neg hi] at h
      rw [Option.some.inj h]

end Go.Proofs.Ytllihaahppelhaa.P
