/- Calls of the functions of the given program return what the plain Lean functions of the same names return; and a row of a law out of its pure statement. Written by a program of this session out of the translation; Lean checks it. No condition. -/
import Derived.Test.YtllihaahppelhaaPx0
import Derived.Test.YtllihaahppelhaaPxHslicesqIndexFuncqintqint
import Derived.Test.YtllihaahppelhaaPxHimplqKinqparents
import Derived.Test.YtllihaahppelhaaPx11
import Derived.Test.YtllihaahppelhaaPxHimplqsteps
import Derived.Test.YtllihaahppelhaaPx14
import Derived.Test.YtllihaahppelhaaHlp
import Derived.Shelf.Abstract
import Derived.BigQuiet
namespace Go.Proofs.Ytllihaahppelhaa.P
open Go.RowKit Go.Proofs.YtllihaahppelhaaW.PrintWords Go.Proofs.YtllihaahppelhaaW.PrintLast Go.Proofs.YtllihaahppelhaaW.PrintMore
attribute [local go_sem] max2_int min2_int max_two min_two max_three min_three max_four min_four   -- for this text's walks alone
set_option linter.unusedVariables false
set_option linter.unusedSimpArgs false

/-! ### impl_LineDown: function 22, by hand -/
-- IMPORT Derived.Test.YtllihaahppelhaaHlp
-- IMPORT Derived.Shelf.Abstract
-- IMPORT Derived.BigQuiet
def impl_LineDown.ps (l0 : List S49) (i : Int) : List Int := [(rd_T49 l0 i).f1, (rd_T49 l0 i).f2].filter fun x => !decide (x < 0)
def impl_LineDown.nx (l0 : List S49) (x : Int) : Option (List Int) :=
  if 0 ≤ x ∧ x < (l0.length : Int) then some (impl_LineDown.ps l0 x) else none
def impl_LineDown.pk (far : List Int) (d : Int) (c : Int) : Bool := decide (rd far c = d)
def impl_LineDown.lp (ch : Int → Option (List Int)) (far : List Int) (b : Int) : Nat → Int → List Int → Option (List Int)
  | 0, _, _ => none
  | k + 1, at_, out => if at_ = b then some out else (ch at_).bind fun ls =>
    if ((0 ≤ at_ ∧ at_ < (far.length : Int)) ∧ (0 ≤ rd far at_ ∧ rd far at_ ≤ 100000) ∧ out.length < 100000) ∧ (∀ c ∈ ls, 0 ≤ c ∧ c < (far.length : Int)) ∧ 0 ≤ Hlp.fidx (impl_LineDown.pk far (rd far at_ - 1)) ls then impl_LineDown.lp ch far b k (rd ls (Hlp.fidx (impl_LineDown.pk far (rd far at_ - 1)) ls)) (out ++ [rd ls (Hlp.fidx (impl_LineDown.pk far (rd far at_ - 1)) ls)]) else none
theorem impl_LineDown.lp_mono (ch ch' : Int → Option (List Int)) (hn : ∀ x r, ch x = some r → ch' x = some r) (far : List Int) (b : Int) (k : Nat) : ∀ (at_ : Int) (out r : List Int), impl_LineDown.lp ch far b k at_ out = some r → impl_LineDown.lp ch' far b (k + 1) at_ out = some r := by
  induction k with
  | zero => intro at_ out r h; simp [impl_LineDown.lp] at h
  | succ k ih =>
    intro at_ out r h
    rw [impl_LineDown.lp] at h ⊢
    by_cases hi : at_ = b
    · rw [if_pos hi] at h ⊢
      exact h
    · rw [if_neg hi] at h ⊢
      obtain ⟨ls, h1, h⟩ := Option.bind_eq_some_iff.1 h
      rw [hn _ _ h1, Option.bind_some]
      split at h
      · rename_i hc
        rw [if_pos hc]
        exact ih _ _ _ h
      · cases h
set_option maxHeartbeats 4000000 in
set_option maxRecDepth 100000 in
theorem impl_LineDown.clo (A0 : Option Addr) (c0 : Nat) (l0 : List S49) (x : Int) (r : List Int) (B1 : Nat) (W : World) (h1 : W.cell? ⟨B1, 0, none⟩ = some (.slice A0 l0.length c0)) (hr0 : Kd.C k49 W A0 l0.length l0) (h : impl_LineDown.nx l0 x = some r) :
    Calls Try.prog 50 #[.int .i64 x, .pointer (some ⟨B1, 0, none⟩)] W fun e w' => ∃ v : Value, e = .returned v ∧ Kd.R (Kd.int .i64) 3 w' W.heap.size (fun _ => True) v r ∧ Below W.heap.size W w' := by
  unfold impl_LineDown.nx at h
  have hi : 0 ≤ x ∧ x < (l0.length : Int) := by
    split at h
    · assumption
    · cases h
  rw [if_pos hi] at h
  obtain rfl := Option.some.inj h
  clear h
  obtain ⟨m, rfl⟩ := Int.eq_ofNat_of_zero_le hi.1
  have hm : m < l0.length := by omega
  obtain ⟨ad, rfl, g0, g1, g2⟩ := at_T49 hr0 (m : Int) hi.1 hi.2
  rw [Int.toNat_natCast] at g0 g1 g2
  have hpar := fun W => impl_Kin_parents.calls (rd_T49 l0 (m : Int)).f0 (rd_T49 l0 (m : Int)).f1 (rd_T49 l0 (m : Int)).f2 (impl_LineDown.ps l0 (m : Int)) W rfl
  generalize impl_LineDown.ps l0 (m : Int) = ps at hpar ⊢
  have HP : Aside0 _ := ⟨hpar⟩
  generalize (rd_T49 l0 (m : Int)).f0 = x0 at g0 HP
  generalize (rd_T49 l0 (m : Int)).f1 = x1 at g1 HP
  generalize (rd_T49 l0 (m : Int)).f2 = x2 at g2 HP
  clear hpar hr0 hi
  go_enter Try.func50, Try.ntmps50
  go_wp2_with (go_at_call 47; refine (HP.out _).mono ?_; rintro e w1 ⟨v1, rfl, hR1, hb1⟩)
  go_ret
  exact ⟨_, rfl, hR1, hb1⟩
set_option maxHeartbeats 4000000 in
set_option maxRecDepth 100000 in
theorem impl_LineDown.pck (ad : Addr) (c0 : Nat) (far : List Int) (x a : Int) (B1 B2 : Nat) (W : World) (h1 : W.cell? ⟨B1, 0, none⟩ = some (.slice (some ad) far.length c0)) (h2 : W.cell? ⟨B2, 0, none⟩ = some (.int .i64 a)) (hr0 : Kd.C (Kd.int .i64) W (some ad) far.length far) (hx : 0 ≤ x ∧ x < (far.length : Int)) (ha : 0 ≤ a ∧ a < (far.length : Int)) (hd : 0 ≤ rd far a ∧ rd far a ≤ 100000) :
    Calls Try.prog 52 #[.int .i64 x, .pointer (some ⟨B1, 0, none⟩), .pointer (some ⟨B2, 0, none⟩)] W fun e w' => e = .returned (.bool (impl_LineDown.pk far (rd far a - 1) x)) ∧ Below W.heap.size W w' := by
  obtain ⟨x, rfl⟩ := Int.eq_ofNat_of_zero_le hx.1
  obtain ⟨a, rfl⟩ := Int.eq_ofNat_of_zero_le ha.1
  have hxn : x < far.length := by omega
  have han : a < far.length := by omega
  have hxz : (x : Int) < (far.length : Int) := hx.2
  have haz : (a : Int) < (far.length : Int) := ha.2
  have gx : W.cell? (ad.add x) = some (.int .i64 (rd far (x : Int))) := by
    obtain ⟨ad', e, hc⟩ := Hlp.int_at hr0 x hxn
    obtain rfl := Option.some.inj e
    rw [hc]
    simp [rd, List.getD_eq_getElem?_getD, List.getElem?_eq_getElem hxn]
  have ga : W.cell? (ad.add a) = some (.int .i64 (rd far (a : Int))) := by
    obtain ⟨ad', e, hc⟩ := Hlp.int_at hr0 a han
    obtain rfl := Option.some.inj e
    rw [hc]
    simp [rd, List.getD_eq_getElem?_getD, List.getElem?_eq_getElem han]
  unfold impl_LineDown.pk
  generalize rd far (x : Int) = dx at gx ⊢
  generalize rd far (a : Int) = da at ga hd ⊢
  obtain ⟨hd1, hd2⟩ := hd
  clear hr0 hx ha
  go_enter Try.func52, Try.ntmps52
  go_wp2_with fail
  go_quiet (fail)
  go_wp2
  go_ret
  exact ⟨by by_cases h : dx = da - 1 <;> simp [h], ⟨rfl, rfl, rfl, Nat.le_refl _, fun _ _ => rfl⟩⟩
def impl_LineDown.f (k : Nat) (l0 : List S49) (a1 a2 : Int) : Option (List Int × Bool) :=
  (impl_hasKin.f k l0 [a1, a2]).bind fun t => if t = true then (impl_steps.g (impl_LineDown.nx l0) k l0.length a2).bind fun far => if 0 ≤ a1 ∧ a1 < (far.length : Int) then (if rd far a1 < 0 then some ([], false) else (impl_LineDown.lp (impl_children.f k l0) far a2 k a1 [a1]).bind fun out => some (out, true)) else none else some ([], false)
theorem impl_LineDown.mono (l0 : List S49) (a1 a2 : Int) (k : Nat) : LeO (impl_LineDown.f k l0 a1 a2) (impl_LineDown.f (k + 1) l0 a1 a2) := by
  unfold impl_LineDown.f
  refine LeO.bind (impl_hasKin.mono _ _ _) fun t => LeO.ite (LeO.bind (fun r h => impl_steps.g_mono _ _ (fun _ _ h => h) _ _ _ _ h) fun far => LeO.ite (LeO.ite (LeO.refl _) (LeO.bind (fun r h => impl_LineDown.lp_mono _ _ (fun x r h => impl_children.mono l0 x k r h) _ _ _ _ _ _ h) fun _ => LeO.refl _)) (LeO.refl _)) (LeO.refl _)
/-- What the row (in slot 9) and the place (in block B10) are, between two rounds. -/
structure impl_LineDown.St (w wr : World) (A9 : Option Addr) (c9 : Nat) (B10 : Nat) (out : List Int) (a : Int) : Prop where
  row : Kd.R (Kd.int .i64) 3 wr w.heap.size (fun _ => True) (.slice A9 out.length c9) out
  cel : wr.cell? ⟨B10, 0, none⟩ = some (.int .i64 a)
  fre : wr.frozen? ⟨B10, 0, none⟩ = false
  ge : w.heap.size ≤ B10
  lt : B10 < wr.heap.size
  ne : (Value.slice A9 out.length c9).ownBlock ≠ some B10
  bel : Below w.heap.size w wr
section
variable {w wr W : World} {A9 : Option Addr} {c9 B10 : Nat} {out : List Int} {a : Int}
theorem impl_LineDown.St.next (h : impl_LineDown.St w wr A9 c9 B10 out a) (hb : Below wr.heap.size wr W) : impl_LineDown.St w W A9 c9 B10 out a :=
  ⟨Kd.R_below h.row hb, pw_cell_below hb h.cel, (hb.frozen h.lt).trans h.fre, h.ge, Nat.lt_of_lt_of_le h.lt hb.size, h.ne, below_step h.bel hb⟩
theorem impl_LineDown.gset (W : World) (b : Nat) (v : Value) : W.grownBy (W.setCell ⟨b, 0, none⟩ v) (some b) :=
  ⟨rfl, rfl, rfl, by simp [World.setCell], fun k _ hk => Below.heap_setCell _ _ _ k (fun e => hk (by rw [e]))⟩
theorem impl_LineDown.St.put (h : impl_LineDown.St w wr A9 c9 B10 out a) (v : Int) : impl_LineDown.St w (wr.setCell ⟨B10, 0, none⟩ (.int .i64 v)) A9 c9 B10 out v :=
  ⟨Kd.R_grown1 h.row rfl (impl_LineDown.gset _ _ _) (fun e => h.ne e.symm), by have := h.cel; go_simp, by have := h.fre; go_simp, h.ge, by have := h.lt; simpa [World.setCell] using this, h.ne, below_set h.bel h.ge⟩
theorem impl_LineDown.St.app (h : impl_LineDown.St w wr A9 c9 B10 out a) (y : Int) (v1 : Value) (hR : Kd.R (Kd.int .i64) 3 W w.heap.size (fun _ => True) v1 (out ++ [y])) (hB : Below w.heap.size w W) (hg : wr.grownBy W (Value.slice A9 out.length c9).ownBlock)
    (hat : v1.ownBlock = (Value.slice A9 out.length c9).ownBlock ∨ ∃ b, v1.ownBlock = some b ∧ wr.heap.size ≤ b) : ∃ A c, v1 = .slice A (out ++ [y]).length c ∧ impl_LineDown.St w W A c B10 (out ++ [y]) a := by
  obtain ⟨A, c, rfl⟩ := Kd.R_slice hR
  refine ⟨A, c, rfl, hR, ?_, ?_, h.ge, Nat.lt_of_lt_of_le h.lt hg.size, ?_, hB⟩
  · exact (World.cell?_of_block (w := wr) (hg.block B10 h.lt (fun e => h.ne e.symm))).trans h.cel
  · exact (World.frozen?_of_block (w := wr) (hg.block B10 h.lt (fun e => h.ne e.symm))).trans h.fre
  · rcases hat with hat | ⟨b, hb, hle⟩
    · rw [hat]; exact h.ne
    · rw [hb]
      intro e
      injection e with e
      have := h.lt
      omega
theorem impl_LineDown.St.fresh (h : impl_LineDown.St w wr A9 c9 B10 out a) (v : Int) : impl_LineDown.St w (wr.alloc (.cells #[.int .i64 v] 3)) A9 c9 wr.heap.size out v := by
  refine ⟨Kd.R_alloc h.row _, by simp, by simp, h.bel.size, by simp, ?_, below_alloc h.bel _⟩
  intro e
  have := Kd.R_lt h.row _ e
  omega
end
/-- What stands as it is from the table on: the family, its box, the table, its box (in block B8). -/
structure impl_LineDown.Fx (W : World) (A0 : Option Addr) (c0 : Nat) (l0 : List S49) (B1 : Nat) (ad : Addr) (cc : Nat) (far : List Int) (B8 : Nat) : Prop where
  fam : Kd.C k49 W A0 l0.length l0
  box : W.cell? ⟨B1, 0, none⟩ = some (.slice A0 l0.length c0)
  tab : Kd.C (Kd.int .i64) W (some ad) far.length far
  tbx : W.cell? ⟨B8, 0, none⟩ = some (.slice (some ad) far.length cc)
theorem impl_LineDown.Fx.next {W W' : World} {A0 : Option Addr} {c0 : Nat} {l0 : List S49} {B1 : Nat} {ad : Addr} {cc : Nat} {far : List Int} {B8 : Nat} (h : impl_LineDown.Fx W A0 c0 l0 B1 ad cc far B8) (hb : Below W.heap.size W W') : impl_LineDown.Fx W' A0 c0 l0 B1 ad cc far B8 :=
  ⟨Kd.C_below h.fam hb, pw_cell_below hb h.box, Kd.C_below h.tab hb, pw_cell_below hb h.tbx⟩
set_option maxHeartbeats 8000000 in
set_option maxRecDepth 100000 in
theorem impl_LineDown.calls (k : Nat) (A0 : Option Addr) (c0 : Nat) (l0 : List S49) (a1 a2 : Int) (r1 : List Int) (r2 : Bool) (w : World) (hr0 : Kd.C k49 w A0 l0.length l0) (hc0 : l0.length ≤ c0) (h : impl_LineDown.f k l0 a1 a2 = some (r1, r2)) :
    Calls Try.prog 22 #[.slice A0 l0.length c0, .int .i64 a1, .int .i64 a2] w fun e w' => ∃ v0_ : Value, e = .returned (.tuple #[v0_, .bool r2]) ∧ Kd.R (Kd.int .i64) 3 w' w.heap.size (fun _ => True) v0_ r1 ∧ Below w.heap.size w w' := by
  unfold impl_LineDown.f at h
  obtain ⟨t, ht, h⟩ := Option.bind_eq_some_iff.1 h
  obtain ⟨W1, hW1⟩ : ∃ W1, W1 = w.alloc (.cells #[.slice A0 l0.length c0] 27) := ⟨_, rfl⟩
  have hs1 : W1.heap.size = w.heap.size + 1 := by rw [hW1]; simp
  have hb1 : Below w.heap.size w W1 := by rw [hW1]; exact (Below.refl _ w).alloc (Nat.le_refl _) _
  have hbox : W1.cell? ⟨w.heap.size, 0, none⟩ = some (.slice A0 l0.length c0) := by rw [hW1]; simp
  have hb2 : Below W1.heap.size W1 (W1.alloc (.cells #[.int .i64 a1, .int .i64 a2] 3)) := (Below.refl _ W1).alloc (Nat.le_refl _) _
  have hlit := own_lit W1 W1.heap.size 3 .i64 [a1, a2] (Nat.le_refl _) (by simp)
  have hC2 : Kd.C (Kd.int .i64) (W1.alloc (.cells #[.int .i64 a1, .int .i64 a2] 3)) (some ⟨W1.heap.size, 0, none⟩) ([a1, a2] : List Int).length [a1, a2] := Kd.C_of_reads (d := (0 : Int)) (h1 := fun _ => rfl) (own_reads' hlit)
  have hkin := impl_hasKin.calls k A0 c0 l0 (some ⟨W1.heap.size, 0, none⟩) 2 [a1, a2] t (W1.alloc (.cells #[.int .i64 a1, .int .i64 a2] 3)) (Kd.C_below hr0 (below_step hb1 hb2)) hc0 hC2 (by simp) ht
  have HK : Aside0 (Calls Try.prog 44 #[.slice A0 l0.length c0, .slice (some ⟨w.heap.size + 1, 0, none⟩) 2 2] ((w.alloc (.cells #[.slice A0 l0.length c0] 27)).alloc (.cells #[.int .i64 a1, .int .i64 a2] 3)) fun e w' => e = .returned (.bool t) ∧ w'.cell? ⟨w.heap.size, 0, none⟩ = some (.slice A0 l0.length c0) ∧ Aside0 (Below W1.heap.size W1 w')) := ⟨by
    rw [← hW1, ← hs1]
    exact hkin.mono fun e w' he => ⟨he.1, pw_cell_below (below_step hb2 he.2) hbox, ⟨below_step hb2 he.2⟩⟩⟩
  clear hkin hC2 hlit hb2 ht
  have hr0' := Kd.C_below hr0 hb1
  cases t with
  | false =>
    rw [if_neg (by simp)] at h
    obtain ⟨rfl, rfl⟩ := Prod.mk.inj (Option.some.inj h)
    clear h hr0 hc0 hr0'
    have HB1 := Aside0.mk hb1
    clear hb1 hbox hs1 hW1
    go_enter Try.func22, Try.ntmps22
    go_wp2_with (go_at_call 44; refine HK.out.mono ?_; rintro e w' ⟨rfl, hc, hb⟩)
    go_ret2
    exact ⟨_, rfl, Kd.R_nil _ _ _ _ _, below_step HB1.out hb.out⟩
  | true =>
    rw [if_pos rfl] at h
    obtain ⟨far, hfar, h⟩ := Option.bind_eq_some_iff.1 h
    have hi : 0 ≤ a1 ∧ a1 < (far.length : Int) := by
      split at h
      · assumption
      · cases h
    rw [if_pos hi] at h
    obtain ⟨a, rfl⟩ := Int.eq_ofNat_of_zero_le hi.1
    have hal : a < far.length := by omega
    have halz : (a : Int) < (far.length : Int) := hi.2
    have eg : ∀ args w, (callFunc 50 args).run Try.prog w = .ok (.enter 50 args) w := enters_of Try.func50 (by kernel_rfl) rfl
    have HST : Aside0 (∀ W, Below W1.heap.size W1 W → Calls Try.prog 45 #[.slice A0 l0.length c0, .int .i64 a2, .func (.func 50) #[] #[.pointer (some ⟨w.heap.size, 0, none⟩)]] W fun e w' => ∃ ad cc, e = .returned (.slice (some ad) far.length cc) ∧ w'.cell? (ad.add a) = some (.int .i64 (rd far (a : Int))) ∧
        Aside0 (Below w.heap.size w w' ∧ Kd.C k49 w' A0 l0.length l0 ∧ w'.cell? ⟨w.heap.size, 0, none⟩ = some (.slice A0 l0.length c0) ∧ Kd.C (Kd.int .i64) w' (some ad) far.length far)) := ⟨fun W hW =>
      (impl_steps.any (impl_LineDown.nx l0) k 50 #[.pointer (some ⟨w.heap.size, 0, none⟩)] eg A0 l0.length c0 a2 far W (fun x ks hx W' hW' => impl_LineDown.clo A0 c0 l0 x ks w.heap.size W' (pw_cell_below (below_step hW hW') hbox) (Kd.C_below hr0' (below_step hW hW')) hx) hfar).mono fun e w' he => by
        obtain ⟨v, rfl, hR, hb⟩ := he
        obtain ⟨A, cc, rfl, _, hC⟩ := Kd.R_reads hR
        obtain ⟨ad, rfl, hcell⟩ := Hlp.int_at hC a hal
        have hB := below_step hW hb
        refine ⟨ad, cc, rfl, ?_, ⟨below_step hb1 hB, Kd.C_below hr0' hB, pw_cell_below hB hbox, hC⟩⟩
        rw [hcell]
        simp [rd, List.getD_eq_getElem?_getD, List.getElem?_eq_getElem hal]⟩
    generalize hd0 : rd far (a : Int) = d at h HST
    clear hfar hr0 hr0' hb1 hbox hs1 hi eg hW1
    by_cases hd : d < 0
    · rw [if_pos hd] at h
      obtain ⟨rfl, rfl⟩ := Prod.mk.inj (Option.some.inj h)
      clear h hd0
      go_enter Try.func22, Try.ntmps22
      go_wp2_with (first | (go_at_call 44; refine HK.out.mono ?_; rintro e w' ⟨rfl, hc, hb⟩) | (go_at_call 45; refine (HST.out _ hb.out).mono ?_; rintro e w2 ⟨ad, cc, rfl, hcd, hb3⟩; have hcd3 : (w2.alloc (.cells #[.slice (some ad) far.length cc] 37)).cell? (ad.add a) = some (.int .i64 d) := pw_cell_below ((Below.refl _ _).alloc (Nat.le_refl _) _) hcd))
      go_ret2
      exact ⟨_, rfl, Kd.R_nil _ _ _ _ _, below_alloc hb3.out.1 _⟩
    · rw [if_neg hd] at h
      obtain ⟨r, hl, h⟩ := Option.bind_eq_some_iff.1 h
      obtain ⟨rfl, rfl⟩ := Prod.mk.inj (Option.some.inj h)
      have HH := Aside0.mk hl
      have HC0 := Aside0.mk hc0
      clear h hl hd0 hc0
      go_enter Try.func22, Try.ntmps22
      go_wp2_with (first | (go_at_call 44; refine HK.out.mono ?_; rintro e w' ⟨rfl, hc, hb⟩) | (go_at_call 45; refine (HST.out _ hb.out).mono ?_; rintro e w2 ⟨ad, cc, rfl, hcd, hb3⟩; have hcd3 : (w2.alloc (.cells #[.slice (some ad) far.length cc] 37)).cell? (ad.add a) = some (.int .i64 d) := pw_cell_below ((Below.refl _ _).alloc (Nat.le_refl _) _) hcd))
      obtain ⟨w5, hw5⟩ : ∃ w5, w5 = w2.alloc (.cells #[.slice (some ad) far.length cc] 37) := ⟨_, rfl⟩
      have hs5 : w5.heap.size = w2.heap.size + 1 := by rw [hw5]; simp
      have HFX : Aside0 (impl_LineDown.Fx w5 A0 c0 l0 w.heap.size ad cc far w2.heap.size ∧ Below w.heap.size w w5) := ⟨by
        obtain ⟨h1, h2, h3, h4⟩ := hb3.out
        have hb : Below w2.heap.size w2 w5 := by rw [hw5]; exact (Below.refl _ _).alloc (Nat.le_refl _) _
        exact ⟨⟨Kd.C_below h2 hb, pw_cell_below hb h3, Kd.C_below h4 hb, by rw [hw5]; simp⟩, below_step h1 hb⟩⟩
      rw [← hw5]
      have HS0 := Aside0.mk (show impl_LineDown.St w5 ((w5.alloc (.cells #[.int .i64 (a : Int)] 3)).alloc (.cells #[.int .i64 (a : Int)] 3)) (some ⟨w2.heap.size + 1, 0, none⟩) 1 (w2.heap.size + 1 + 1) [(a : Int)] (a : Int) from by
        have hl := own_lit w5 w5.heap.size 3 .i64 [(a : Int)] (Nat.le_refl _) (by simp)
        rw [hs5] at hl
        exact ⟨Kd.R_alloc (Kd.R_of_own (by rw [hs5]; simpa [encs, nums] using hl) (fun _ _ => trivial)) _, by simp [← hs5], by simp [← hs5], by omega, by simp; omega, by simp [Value.ownBlock], below_alloc (below_alloc (Below.refl _ _) _) _⟩)
      generalize w2.heap.size = B8 at HFX HS0
      clear hcd hcd3 hb3 hb HK HST hs5 hc
      clear hw5
      go_loopg [9, 10] k (fun gg s9 s10 wr => ∃ (out : List Int) (at_ : Int) (A9 : Option Addr) (c9 B10 : Nat), s9 = .slice A9 out.length c9 ∧ s10 = .pointer (some ⟨B10, 0, none⟩) ∧ Aside0 (impl_LineDown.lp (impl_children.f k l0) far a2 gg at_ out = some r) ∧ Aside0 (impl_LineDown.St w5 wr A9 c9 B10 out at_))
      case atStart => exact ⟨_, _, _, _, _, rfl, rfl, HH, HS0⟩
      case round =>
        obtain ⟨out, at_, A9, c9, B10, rfl, rfl, HL, HS⟩ := hrel
        clear HS0 HH
        cases gk with
        | zero => exact absurd HL.out (by simp [impl_LineDown.lp])
        | succ kf =>
        have hl := HL.out
        simp only [impl_LineDown.lp] at hl
        have hcel := HS.out.cel
        have hfx := HFX.out.1.next HS.out.bel
        have hbox := hfx.box
        by_cases hi : at_ = a2
        · subst hi
          rw [if_pos rfl] at hl
          obtain rfl := Option.some.inj hl
          clear hl
          go_wp2
          go_ret2
          exact ⟨_, rfl, Kd.R_lower HS.out.row HFX.out.2.size, below_then HFX.out.2 HFX.out.2.size HS.out.bel⟩
        · rw [if_neg hi] at hl
          obtain ⟨ls, hls, hl⟩ := Option.bind_eq_some_iff.1 hl
          have hq : ((0 ≤ at_ ∧ at_ < (far.length : Int)) ∧ (0 ≤ rd far at_ ∧ rd far at_ ≤ 100000) ∧ out.length < 100000) ∧ (∀ c ∈ ls, 0 ≤ c ∧ c < (far.length : Int)) ∧ 0 ≤ Hlp.fidx (impl_LineDown.pk far (rd far at_ - 1)) ls := by
            split at hl
            · assumption
            · cases hl
          rw [if_pos hq] at hl
          obtain ⟨⟨q1, q2, q3⟩, q4, q5⟩ := hq
          have hix := Hlp.fidx_bd (impl_LineDown.pk far (rd far at_ - 1)) ls
          generalize hm : Hlp.fidx (impl_LineDown.pk far (rd far at_ - 1)) ls = m at hl q5 hix
          obtain ⟨m, rfl⟩ := Int.eq_ofNat_of_zero_le q5
          have hml : m < ls.length := by omega
          have hmlz : (m : Int) < (ls.length : Int) := hix.2
          have eg2 : ∀ args w, (callFunc 52 args).run Try.prog w = .ok (.enter 52 args) w := enters_of Try.func52 (by kernel_rfl) rfl
          have H48 : Aside0 (Calls Try.prog 48 #[.slice A0 l0.length c0, .int .i64 at_] wr fun e w6 => ∃ A5 c5, e = .returned (.slice A5 ls.length c5) ∧ w6.cell? ⟨B10, 0, none⟩ = some (.int .i64 at_) ∧ Aside0 (Kd.C (Kd.int .i64) w6 A5 ls.length ls ∧ Below wr.heap.size wr w6)) :=
            ⟨(impl_children.calls k A0 c0 l0 at_ ls wr hfx.fam HC0.out hls).mono fun e w6 he => by
              obtain ⟨v, rfl, hR, hb⟩ := he
              obtain ⟨A5, c5, rfl, _, hC⟩ := Kd.R_reads hR
              exact ⟨A5, c5, rfl, pw_cell_below hb hcel, ⟨hC, hb⟩⟩⟩
          have H51 : Aside0 (∀ A5 c5 w6, Kd.C (Kd.int .i64) w6 A5 ls.length ls ∧ Below wr.heap.size wr w6 → Calls Try.prog 51 #[.slice A5 ls.length c5, .func (.func 52) #[] #[.pointer (some ⟨B8, 0, none⟩), .pointer (some ⟨B10, 0, none⟩)]] w6 fun e w7 => ∃ ad5, e = .returned (.int .i64 (m : Int)) ∧ A5 = some ad5 ∧ w7.cell? (ad5.add m) = some (.int .i64 (rd ls (m : Int))) ∧ Aside0 (Below wr.heap.size wr w7)) := ⟨fun A5 c5 w6 ⟨hC, hB⟩ => by
            have h6 := hfx.next hB
            refine (slices_IndexFunc_int_int.any (impl_LineDown.pk far (rd far at_ - 1)) 52 #[.pointer (some ⟨B8, 0, none⟩), .pointer (some ⟨B10, 0, none⟩)] eg2 A5 c5 ls w6 hC (fun x hx W hW => impl_LineDown.pck ad cc far x at_ B8 B10 W (h6.next hW).tbx (pw_cell_below hW (pw_cell_below hB hcel)) (h6.next hW).tab (q4 x hx) q1 q2)).mono ?_
            rintro e w7 ⟨rfl, hb7⟩
            obtain ⟨ad5, rfl, hcell⟩ := Hlp.int_at (Kd.C_below hC hb7) m hml
            refine ⟨ad5, by rw [hm], rfl, ?_, ⟨below_step hB hb7⟩⟩
            rw [hcell]
            simp [rd, List.getD_eq_getElem?_getD, List.getElem?_eq_getElem hml]⟩
          generalize rd ls (m : Int) = x at hl H51
          have HHL := Aside0.mk hl
          have HQ3 := Aside0.mk q3
          clear hl hls hm q1 q2 q3 q4 q5 hix hml HL eg2 hfx
          go_wp2_with (first | (go_at_call 48; refine H48.out.mono ?_; rintro e w6 ⟨A5, c5, rfl, hcel6, HB6⟩; clear H48) | (go_at_call 51; refine (H51.out _ _ _ HB6.out).mono ?_; rintro e w7 ⟨ad5, rfl, rfl, hcx, HB7⟩; clear H51; have HS7 := Aside0.mk (HS.out.next HB7.out); have hfre := HS7.out.fre; have hcel7 := HS7.out.cel; have HSP := Aside0.mk (HS7.out.put x)) |
            ((with_reducible refine gate_builtin (b := .append) (xs := #[.tmp 42, .tmp 44]) rfl ?_); at_builtin; refine Kd.R_append (Kd.int .i64) (w0 := w5) w5.heap.size rfl (.tmp 42) (.tmp 44) 37 3 (.int .i64 0) 8 rfl Try.underlying37 info3 rfl (by decide) (by omega) (.slice A9 out.length c9) out x [.int .i64 x] (fun _ => True) (fun _ => False) rfl (by first | (go_simp; done) | (go_simp; rfl)) rfl (fun _ hk => hk.elim) (fun _ _ => trivial) HSP.out.row HSP.out.bel HSP.out.bel.size (by have := HQ3.out; omega) ?_; intro v3 w3 ho hb hg hat; obtain ⟨A8, c8, e8, hs8⟩ := HSP.out.app x v3 ho hb hg hat; subst e8; have HS8 := Aside0.mk hs8; clear ho hb hg hat hs8; have hcel8 := HS8.out.cel))
          go_roundg kf
          case measure => omega
          case rel => exact ⟨_, x, A8, c8, _, (by rw [List.length_append]; rfl), rfl, HHL, ⟨HS8.out.fresh x⟩⟩

end Go.Proofs.Ytllihaahppelhaa.P
