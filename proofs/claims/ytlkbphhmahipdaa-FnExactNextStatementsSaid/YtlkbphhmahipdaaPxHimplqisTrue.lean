/- Calls of the functions of the given program return what the plain Lean functions of the same names return; and a row of a law out of its pure statement. Written by a program of this session out of the translation; Lean checks it. No condition. -/
import Derived.Test.YtlkbphhmahipdaaPx0
import Derived.Test.YtlkbphhmahipdaaPxHimplqisTalk
import Derived.Test.YtlkbphhmahipdaaPxHimplqleft
import Derived.Test.YtlkbphhmahipdaaPxHslicesqContainsFuncqintqint
import Derived.Test.YtlkbphhmahipdaaTk
import Derived.BigQuiet
namespace Go.Proofs.Ytlkbphhmahipdaa.P
open Go.RowKit Go.Proofs.YtlkbphhmahipdaaW.PrintWords Go.Proofs.YtlkbphhmahipdaaW.PrintLast Go.Proofs.YtlkbphhmahipdaaW.PrintMore
attribute [local go_sem] max2_int min2_int max_two min_two max_three min_three max_four min_four   -- for this text's walks alone
set_option linter.unusedVariables false
set_option linter.unusedSimpArgs false

/-! ### impl_isTrue: function 81, by hand -/
-- IMPORT Derived.Test.YtlkbphhmahipdaaTk
-- IMPORT Derived.BigQuiet
/-- A pair is among some. -/
def impl_isTrue.has_ (xs : List (List Int)) (a b : Int) : Bool := xs.any fun x => decide (rd x 0 = a) && decide (rd x 1 = b)
set_option maxHeartbeats 4000000 in
set_option maxRecDepth 100000 in
theorem impl_isTrue.clo (a b : Int) (B5 B6 lo : Nat) (p : Tk.PP) (W : World) (hinn : Tk.Inn 3 W lo [p]) (h5 : W.cell? ⟨B5, 0, none⟩ = some (.int .i64 a)) (h6 : W.cell? ⟨B6, 0, none⟩ = some (.int .i64 b)) :
    Calls Try.prog 116 #[Tk.cv p, .pointer (some ⟨B5, 0, none⟩), .pointer (some ⟨B6, 0, none⟩)] W fun e w' => e = .returned (.bool (decide (p.2.1 = a) && decide (p.2.2 = b))) ∧ Below W.heap.size W w' := by
  obtain ⟨g, x, y⟩ := p
  obtain ⟨c0, c1⟩ := hinn.cells (g, x, y) (by simp)
  dsimp only at c0 c1 ⊢
  unfold Tk.cv
  clear hinn
  by_cases hx : x = a
  · subst hx
    go_enter Try.func116, Try.ntmps116
    go_wp2_with fail
    go_quiet (fail)
    go_wp2
    go_ret
    refine ⟨?_, ⟨rfl, rfl, rfl, Nat.le_refl _, fun _ _ => rfl⟩⟩
    by_cases h : y = b <;> simp [h]
  · have hxb : (x == a) = false := by simpa using hx
    go_enter Try.func116, Try.ntmps116
    go_wp2_with fail
    go_quiet (fail)
    go_wp2
    go_ret
    exact ⟨by simp [hx], ⟨rfl, rfl, rfl, Nat.le_refl _, fun _ _ => rfl⟩⟩
set_option maxHeartbeats 4000000 in
set_option maxRecDepth 100000 in
theorem impl_isTrue.has (n : Nat) (hn : n ≤ 40) (a b : Int) (talk : ByteArray) (m : Nat) (hm : m ≤ 1000) (hsz : talk.size = 2 * m) (sp : Nat → Bool) (wt : Nat → Int) (ht : ∀ j, j < m → talk.extract (2 * j) (2 * j + 1) = Tk.wh (sp j) ∧ bt talk (2 * (j : Int) + 1) = wt j) (w : World) :
    Calls Try.prog 81 #[.int .i64 (n : Int), .int .i64 a, .int .i64 b, .string talk] w fun e w' => e = .returned (.bool (impl_isTrue.has_ (impl_left.rest n sp wt m) a b)) ∧ Below w.heap.size w w' := by
  have TL := Aside0.mk (fun W => impl_left.has n hn talk m hm hsz sp wt ht W)
  have eg : ∀ args w, (callFunc 116 args).run Try.prog w = .ok (.enter 116 args) w := enters_of Try.func116 (by kernel_rfl) rfl
  have TC : Aside0 (∀ B5 B6 W base lo A c ps, Tk.Has 36 3 W base lo (.slice A ps.length c) ps → W.cell? ⟨B5, 0, none⟩ = some (.int .i64 a) → W.cell? ⟨B6, 0, none⟩ = some (.int .i64 b) → Tk.vals ps = impl_left.rest n sp wt m → Calls Try.prog 115 #[.slice A ps.length c, .func (.func 116) #[] #[.pointer (some ⟨B5, 0, none⟩), .pointer (some ⟨B6, 0, none⟩)]] W fun e w' => e = .returned (.bool (impl_isTrue.has_ (impl_left.rest n sp wt m) a b)) ∧ Aside0 (Below W.heap.size W w')) := ⟨fun B5 B6 W base lo A c ps hH h5 h6 hv => by
    have hcon := slices_ContainsFunc_PP.any (fun p => decide (p.2.1 = a) && decide (p.2.2 = b)) 116 #[.pointer (some ⟨B5, 0, none⟩), .pointer (some ⟨B6, 0, none⟩)] eg A c ps W (fun i hi => by
      obtain ⟨g, cap, e, hc⟩ := hH.at_ i hi
      injection e with e1 e2 e3
      exact ⟨_, e1, by rw [add_plain]; exact hc⟩) (by obtain ⟨_, _, _, _, h⟩ := hH.slice; exact h) (fun x hx W' hW => impl_isTrue.clo a b B5 B6 lo x W' ((hH.inn.below hW).sub (fun p hp => by rw [List.mem_singleton.1 hp]; exact hx)) (pw_cell_below hW h5) (pw_cell_below hW h6))
    have e : ps.any (fun p => decide (p.2.1 = a) && decide (p.2.2 = b)) = impl_isTrue.has_ (impl_left.rest n sp wt m) a b := by
      rw [← hv, impl_isTrue.has_, Tk.vals, List.any_map]
      rfl
    rw [← e]
    exact hcon.mono fun e w' he => ⟨he.1, ⟨he.2⟩⟩⟩
  clear ht hsz eg
  have hb2 : Below w.heap.size w ((w.alloc (.cells #[.int .i64 a] 3)).alloc (.cells #[.int .i64 b] 3)) := below_alloc (below_alloc (Below.refl _ _) _) _
  have HB2 := Aside0.mk hb2
  have HC5 := Aside0.mk (show ((w.alloc (.cells #[.int .i64 a] 3)).alloc (.cells #[.int .i64 b] 3)).cell? ⟨w.heap.size, 0, none⟩ = some (.int .i64 a) ∧ ((w.alloc (.cells #[.int .i64 a] 3)).alloc (.cells #[.int .i64 b] 3)).cell? ⟨w.heap.size + 1, 0, none⟩ = some (.int .i64 b) from ⟨by simp, by simp⟩)
  clear hb2
  go_enter Try.func81, Try.ntmps81
  go_wp2_with (first
    | (go_at_call 76; refine (TL.out _).mono ?_; rintro e w3 ⟨v3, rfl, ps, hH, hv, _, hb⟩; obtain ⟨A3, c3, e3, _⟩ := hH.slice; subst e3; have R3 := Aside0.mk (show _ ∧ _ ∧ _ from ⟨hH, hv, hb⟩); clear hH hv hb)
    | (go_at_call 115; refine (TC.out _ _ _ _ _ _ _ _ R3.out.1 (pw_cell_below R3.out.2.2 HC5.out.1) (pw_cell_below R3.out.2.2 HC5.out.2) R3.out.2.1).mono ?_; rintro e w4 ⟨rfl, h4⟩))
  go_ret
  exact ⟨rfl, below_step (below_step HB2.out R3.out.2.2) h4.out⟩
/-- Who speaks, and what is said, in a talk's statement j. -/
def impl_isTrue.sp (talk : ByteArray) (j : Nat) : Bool := decide (bt talk (2 * (j : Int)) = 115)
def impl_isTrue.wt (talk : ByteArray) (j : Nat) : Int := bt talk (2 * (j : Int) + 1)
/-- What is left behind a talk. -/
def impl_isTrue.lft (n : Int) (talk : ByteArray) : List (List Int) := impl_left.rest n.toNat (impl_isTrue.sp talk) (impl_isTrue.wt talk) (talk.size / 2)
theorem impl_isTrue.parts (talk : ByteArray) (h : impl_isTalk.ok talk = true) : talk.size = 2 * (talk.size / 2) ∧ talk.size / 2 ≤ 12 ∧ (∀ j, j < talk.size / 2 → talk.extract (2 * j) (2 * j + 1) = Tk.wh (impl_isTrue.sp talk j) ∧ bt talk (2 * (j : Int) + 1) = impl_isTrue.wt talk j) ∧ ∀ j, j < talk.size / 2 → impl_isTrue.wt talk j = 45 ∨ impl_isTrue.wt talk j = 43 ∨ impl_isTrue.wt talk j = 33 := by
  unfold impl_isTalk.ok at h
  simp only [Bool.and_eq_true, decide_eq_true_eq] at h
  obtain ⟨⟨h1, h2⟩, h3⟩ := h
  have h4 : ∀ j, j < talk.size / 2 → impl_isTalk.one talk j = true := fun j hj => List.all_eq_true.1 h3 j (List.mem_range.2 hj)
  refine ⟨by omega, by omega, fun j hj => ⟨?_, rfl⟩, fun j hj => ?_⟩
  · have h5 := h4 j hj
    unfold impl_isTalk.one at h5
    simp only [Bool.and_eq_true, Bool.or_eq_true, decide_eq_true_eq] at h5
    have hlt : 2 * j < talk.size := by omega
    rw [impl_isTalk.cut talk (2 * j) hlt]
    have hb : bt talk (2 * (j : Int)) = (talk[2 * j].toNat : Int) := by
      rw [show 2 * (j : Int) = ((2 * j : Nat) : Int) by omega]
      have hq := (bt_at talk ((2 * j : Nat) : Int) (by rw [Int.toNat_natCast]; exact hlt)).symm
      simp only [Int.toNat_natCast] at hq
      exact hq
    unfold impl_isTrue.sp
    rw [hb] at h5 ⊢
    generalize talk[2 * j] = b at h5 ⊢
    rcases h5.1 with e | e
    · obtain rfl : b = 115 := UInt8.toNat_inj.1 (by have : b.toNat = 115 := by omega
                                                    rw [this]; rfl)
      rfl
    · obtain rfl : b = 112 := UInt8.toNat_inj.1 (by have : b.toNat = 112 := by omega
                                                    rw [this]; rfl)
      rfl
  · have h5 := h4 j hj
    unfold impl_isTalk.one at h5
    simp only [Bool.and_eq_true, Bool.or_eq_true, decide_eq_true_eq] at h5
    unfold impl_isTrue.wt
    omega
def impl_isTrue.f (n a b : Int) (talk : ByteArray) : Option Bool := if (0 ≤ n ∧ n ≤ 40) ∧ impl_isTalk.ok talk = true then some (impl_isTrue.has_ (impl_isTrue.lft n talk) a b) else none
theorem impl_isTrue.calls (n a b : Int) (talk : ByteArray) (r : Bool) (w : World) (h : impl_isTrue.f n a b talk = some r) :
    Calls Try.prog 81 #[.int .i64 n, .int .i64 a, .int .i64 b, .string talk] w fun e w' => e = .returned (.bool r) ∧ Below w.heap.size w w' := by
  have hc : (0 ≤ n ∧ n ≤ 40) ∧ impl_isTalk.ok talk = true := by
    unfold impl_isTrue.f at h
    split at h
    · assumption
    · cases h
  obtain rfl : impl_isTrue.has_ (impl_isTrue.lft n talk) a b = r := by unfold impl_isTrue.f at h; rw [if_pos hc] at h; exact Option.some.inj h
  obtain ⟨h1, h2, h3, _⟩ := impl_isTrue.parts talk hc.2
  obtain ⟨m, rfl⟩ := Int.eq_ofNat_of_zero_le hc.1.1
  exact impl_isTrue.has m (by omega) a b talk (talk.size / 2) (by omega) h1 _ _ h3 w

end Go.Proofs.Ytlkbphhmahipdaa.P
