/- Calls of the functions of the given program return what the plain Lean functions of the same names return; and a row of a law out of its pure statement. Written by a program of this session out of the translation; Lean checks it. No condition. -/
import Derived.Test.YtlkbphhmahipdaaPx0
import Derived.Test.YtlkbphhmahipdaaPxHspecqtaSay
import Derived.Test.YtlkbphhmahipdaaPxHspecqtaPairs
import Derived.Test.YtlkbphhmahipdaaPxHimplqbehind
import Derived.Test.YtlkbphhmahipdaaPxHimplqleft
import Derived.Test.YtlkbphhmahipdaaTk
import Derived.Deep.RegionHeld3
namespace Go.Proofs.Ytlkbphhmahipdaa.P
open Go.RowKit Go.Proofs.YtlkbphhmahipdaaW.PrintWords Go.Proofs.YtlkbphhmahipdaaW.PrintLast Go.Proofs.YtlkbphhmahipdaaW.PrintMore
attribute [local go_sem] max2_int min2_int max_two min_two max_three min_three max_four min_four   -- for this text's walks alone
set_option linter.unusedVariables false
set_option linter.unusedSimpArgs false

/-! ### spec_taLeft: function 73, by hand -/
-- IMPORT Derived.Test.YtlkbphhmahipdaaTk
-- IMPORT Derived.Deep.RegionHeld3
set_option maxHeartbeats 4000000 in
set_option maxRecDepth 100000 in
theorem spec_taLeft.has (n : Nat) (hn : n ≤ 40) (talk : ByteArray) (m : Nat) (hm : m ≤ 1000) (hsz : talk.size = 2 * m) (sp : Nat → Bool) (wt : Nat → Int) (ht : ∀ j, j < m → talk.extract (2 * j) (2 * j + 1) = Tk.wh (sp j) ∧ bt talk (2 * (j : Int) + 1) = wt j) (hwt : ∀ j, j < m → wt j = 45 ∨ wt j = 43 ∨ wt j = 33) (w : World) :
    Calls Try.prog 73 #[.int .i64 (n : Int), .string talk] w fun e w' => ∃ v : Value, e = .returned v ∧ ∃ ps : List Tk.PP, Tk.Has 36 3 w' w.heap.size w.heap.size v ps ∧ Tk.vals ps = impl_left.rest n sp wt m ∧ Tk.Ok ps ∧ Below w.heap.size w w' := by
  have hall := spec_taPairs.has n hn w
  have HA := Aside0.mk hall
  have HT := Aside0.mk ht
  have HWT := Aside0.mk hwt
  have HZ := Aside0.mk hsz
  have hszz : (talk.size : Int) = 2 * (m : Int) := by omega
  have HSZ := Aside0.mk hszz
  have hsb : (talk.size : Int) ≤ 2000 := by omega
  clear hall ht hsz hszz hwt
  go_enter Try.func73, Try.ntmps73
  go_wp2_with (go_at_call 94; refine HA.out.mono ?_; rintro e w2 ⟨v, rfl, h⟩; have H := Aside0.mk h; clear h HA)
  go_loopg [5, 6] m (fun gg s5 s6 wr => ∃ (j : Nat) (i : Int), s6 = .int .i64 i ∧ j ≤ m ∧ m - j ≤ gg ∧ Aside0 (i = 2 * (j : Int)) ∧ Aside0 (∃ (b : Nat) (ps : List Tk.PP), w.heap.size ≤ b ∧ Tk.Has 36 3 wr b w.heap.size s5 ps ∧ Tk.vals ps = impl_left.rest n sp wt j ∧ Tk.Ok ps ∧ Below w.heap.size w wr))
  case atStart =>
    refine ⟨0, 0, rfl, Nat.zero_le _, by omega, ⟨rfl⟩, ⟨?_⟩⟩
    obtain ⟨ps, h1, h2, h3⟩ := H.out
    exact ⟨_, ps, Nat.le_refl _, h1, h2, impl_left.ok_all _ n hn ps h2, h3⟩
  case round =>
    obtain ⟨j, i, rfl, hj, hgg, HI, HS⟩ := hrel
    clear H
    by_cases hjm : j < m
    · have hlt : i < (talk.size : Int) := by have := HI.out; have := HSZ.out; omega
      have hi0 : 0 ≤ i := by have := HI.out; have := HSZ.out; omega
      have hi2 : i + 1 < (talk.size : Int) := by have := HI.out; have := HSZ.out; omega
      obtain ⟨i1, hi1⟩ : ∃ i1, i1 = i + 1 := ⟨_, rfl⟩
      have hw1 : IntKind.i64.wrap (i + 1) = i1 := by rw [hi1]; exact IntWalk.i64_in _ (by omega)
      have hle : i ≤ i1 := by omega
      have hi3 : i1 ≤ (talk.size : Int) := by omega
      have hi4 : 0 ≤ i1 := by omega
      have hi5 : i1 < (talk.size : Int) := by omega
      have hx12 := bt_at talk i1
      obtain ⟨b, ps, hb0, hH, hv, hok, hbel⟩ := HS.out
      obtain ⟨e1, e2⟩ := HT.out j hjm
      have ex : talk.extract i.toNat i1.toNat = Tk.wh (sp j) := by
        have h1 : i.toNat = 2 * j := by have := HI.out; have := HSZ.out; omega
        have h2 : i1.toNat = 2 * j + 1 := by have := HI.out; have := HSZ.out; omega
        rw [h1, h2, e1]
      have eb : bt talk i1 = wt j := by rw [hi1, HI.out]; exact e2
      have hbh := fun q => spec_taSay.has (sp j) (wt j) (HWT.out j hjm) b w.heap.size u5 ps (wr.drewN q) (hH.below (pw_below_drewN (Below.refl _ _) q)) hok
      have HBH := Aside0.mk (show ∀ q, Calls Try.prog 77 #[u5, .string (Tk.wh (sp j)), .int .u8 (wt j)] (wr.drewN q) fun e w' => ∃ v', e = .returned v' ∧ Aside0 (∃ (b : Nat) (ps : List Tk.PP), w.heap.size ≤ b ∧ Tk.Has 36 3 w' b w.heap.size v' ps ∧ Tk.vals ps = impl_left.rest n sp wt (j + 1) ∧ Tk.Ok ps ∧ Below w.heap.size w w') from fun q => (hbh q).mono fun e w' he => by
        obtain ⟨v', rfl, h1, h2⟩ := he
        exact ⟨v', rfl, ⟨(wr.drewN q).heap.size, _, hbel.size, h1, by rw [impl_behind.sel_vals, hv]; rfl, impl_behind.sel_ok _ _ _ hok, below_step (below_step hbel (pw_below_drewN (Below.refl _ _) q)) h2⟩⟩)
      have HI1 := Aside0.mk hi1
      clear hbh hH hv hok hbel e1 e2 hb0 hi2 hi1
      rw [ex.symm, eb.symm] at HBH
      clear ex eb
      go_wp2
      go_region_held3 (fun _ => True) (trivial) (first | (go_at_call 77; refine (HBH.out _).mono ?_; rintro e w7 ⟨v7, rfl, H7⟩))
      go_simp
      go_wp2
      go_roundg (m - (j + 1))
      case measure => omega
      case rel => exact ⟨j + 1, i + 2, by go_num, by omega, by omega, ⟨by have := HI.out; omega⟩, H7⟩
    · have hlt : ¬ i < (talk.size : Int) := by have := HI.out; have := HSZ.out; omega
      obtain rfl : j = m := by omega
      go_wp2
      go_ret
      obtain ⟨b, ps, h1, h2, h3⟩ := HS.out
      exact ⟨_, rfl, ps, h2.lower h1 (Nat.le_refl _), h3⟩

end Go.Proofs.Ytlkbphhmahipdaa.P
