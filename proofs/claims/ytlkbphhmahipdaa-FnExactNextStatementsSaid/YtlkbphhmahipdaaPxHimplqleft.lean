/- Calls of the functions of the given program return what the plain Lean functions of the same names return; and a row of a law out of its pure statement. Written by a program of this session out of the translation; Lean checks it. No condition. -/
import Derived.Test.YtlkbphhmahipdaaPx0
import Derived.Test.YtlkbphhmahipdaaPxHimplqbehind
import Derived.Test.YtlkbphhmahipdaaPxHimplqpairsThat
import Derived.Test.YtlkbphhmahipdaaTk
import Derived.Deep.RegionHeld3
namespace Go.Proofs.Ytlkbphhmahipdaa.P
open Go.RowKit Go.Proofs.YtlkbphhmahipdaaW.PrintWords Go.Proofs.YtlkbphhmahipdaaW.PrintLast Go.Proofs.YtlkbphhmahipdaaW.PrintMore
attribute [local go_sem] max2_int min2_int max_two min_two max_three min_three max_four min_four   -- for this text's walks alone
set_option linter.unusedVariables false
set_option linter.unusedSimpArgs false

/-! ### impl_left: function 76, by hand -/
-- IMPORT Derived.Test.YtlkbphhmahipdaaTk
-- IMPORT Derived.Deep.RegionHeld3
theorem impl_left.row_mem (q : Int → Int → Bool) (a m : Nat) (x : List Int) (h : x ∈ impl_pairsThat.row q a m) : ∃ j : Nat, j < m ∧ x = [(a : Int), a + (j : Int)] := by
  unfold impl_pairsThat.row at h
  obtain ⟨j, hj, rfl⟩ := List.mem_map.1 h
  exact ⟨j, List.mem_range.1 (List.mem_filter.1 hj).1, rfl⟩
theorem impl_left.all_len (q : Int → Int → Bool) (n m : Nat) : (impl_pairsThat.all q n m).length ≤ m * n := by
  induction m with
  | zero => simp [impl_pairsThat.all]
  | succ m ih =>
    rw [impl_pairsThat.all_succ, List.length_append, Nat.add_mul, Nat.one_mul]
    have : (impl_pairsThat.row q (m + 1) (n - m)).length ≤ n - m := by
      unfold impl_pairsThat.row
      rw [List.length_map]
      exact Nat.le_trans (List.length_filter_le _ _) (by simp)
    omega
theorem impl_left.all_mem (q : Int → Int → Bool) (n : Nat) (x : List Int) (h : x ∈ impl_pairsThat.all q n n) : ∃ a b : Int, x = [a, b] ∧ 1 ≤ a ∧ a ≤ b ∧ b ≤ (n : Int) := by
  unfold impl_pairsThat.all at h
  obtain ⟨i, hi, h⟩ := List.mem_flatMap.1 h
  have hi := List.mem_range.1 hi
  obtain ⟨j, hj, rfl⟩ := impl_left.row_mem q (i + 1) (n - i) x h
  exact ⟨_, _, rfl, by omega, by omega, by omega⟩
theorem impl_left.ok_all (q : Int → Int → Bool) (n : Nat) (hn : n ≤ 40) (ps : List Tk.PP) (h : Tk.vals ps = impl_pairsThat.all q n n) : Tk.Ok ps := by
  refine ⟨?_, fun p hp => ?_⟩
  · have h1 := impl_left.all_len q n n
    rw [← h, Tk.vals_len] at h1
    have : n * n ≤ 40 * 40 := Nat.mul_le_mul hn hn
    omega
  · have h1 : Tk.vl p ∈ impl_pairsThat.all q n n := by rw [← h]; exact List.mem_map_of_mem hp
    obtain ⟨a, b, e, h2, h3, h4⟩ := impl_left.all_mem q n _ h1
    have e' : [p.2.1, p.2.2] = [a, b] := e
    injection e' with e1 e2
    injection e2 with e2
    omega
/-- All pairs up to n. -/
def impl_left.pairs (n : Nat) : List (List Int) := impl_pairsThat.all (fun _ _ => true) n n
set_option maxHeartbeats 1000000 in
theorem impl_allPairs.has (n : Nat) (hn : n ≤ 40) (w : World) : Calls Try.prog 92 #[.int .i64 (n : Int)] w fun e w' => ∃ v : Value, e = .returned v ∧ ∃ ps : List Tk.PP, Tk.Has 36 3 w' w.heap.size w.heap.size v ps ∧ Tk.vals ps = impl_left.pairs n ∧ Below w.heap.size w w' := by
  have eg : ∀ args w, (callFunc 122 args).run Try.prog w = .ok (.enter 122 args) w := enters_of Try.func122 (by kernel_rfl) rfl
  have hcon := impl_pairsThat.any (fun _ _ => true) 122 #[] eg n (by omega) w (fun p W _ _ => by
    go_enter Try.func122, Try.ntmps122
    go_wp2
    go_ret
    exact ⟨rfl, Below.refl _ _⟩)
  have HC := Aside0.mk hcon
  clear hcon
  go_enter Try.func92, Try.ntmps92
  go_wp2_with (go_at_call 100; refine HC.out.mono ?_; rintro e w' ⟨v, rfl, h⟩; have H := Aside0.mk h; clear h)
  go_ret
  exact ⟨_, rfl, H.out⟩
/-- What is left behind a talk's first statements. -/
def impl_left.rest (n : Nat) (sp : Nat → Bool) (wt : Nat → Int) : Nat → List (List Int)
  | 0 => impl_left.pairs n
  | j + 1 => Tk.say (sp j) (wt j) (impl_left.rest n sp wt j)
set_option maxHeartbeats 4000000 in
set_option maxRecDepth 100000 in
theorem impl_left.has (n : Nat) (hn : n ≤ 40) (talk : ByteArray) (m : Nat) (hm : m ≤ 1000) (hsz : talk.size = 2 * m) (sp : Nat → Bool) (wt : Nat → Int) (ht : ∀ j, j < m → talk.extract (2 * j) (2 * j + 1) = Tk.wh (sp j) ∧ bt talk (2 * (j : Int) + 1) = wt j) (w : World) :
    Calls Try.prog 76 #[.int .i64 (n : Int), .string talk] w fun e w' => ∃ v : Value, e = .returned v ∧ ∃ ps : List Tk.PP, Tk.Has 36 3 w' w.heap.size w.heap.size v ps ∧ Tk.vals ps = impl_left.rest n sp wt m ∧ Tk.Ok ps ∧ Below w.heap.size w w' := by
  have hall := impl_allPairs.has n hn w
  have HA := Aside0.mk hall
  have HT := Aside0.mk ht
  have HZ := Aside0.mk hsz
  have hszz : (talk.size : Int) = 2 * (m : Int) := by omega
  have HSZ := Aside0.mk hszz
  have hsb : (talk.size : Int) ≤ 2000 := by omega
  clear hall ht hsz hszz
  go_enter Try.func76, Try.ntmps76
  go_wp2_with (go_at_call 92; refine HA.out.mono ?_; rintro e w2 ⟨v, rfl, h⟩; have H := Aside0.mk h; clear h HA)
  go_loopg [5, 6] m (fun gg s5 s6 wr => ∃ (j : Nat) (i : Int), s6 = .int .i64 i ∧ j ≤ m ∧ m - j ≤ gg ∧ Aside0 (i = 2 * (j : Int)) ∧ Aside0 (∃ (b : Nat) (ps : List Tk.PP), w.heap.size ≤ b ∧ Tk.Has 36 3 wr b w.heap.size s5 ps ∧ Tk.vals ps = impl_left.rest n sp wt j ∧ Tk.Ok ps ∧ Below w.heap.size w wr))
  case atStart =>
    refine ⟨0, 0, rfl, Nat.zero_le _, by omega, ⟨rfl⟩, ⟨?_⟩⟩
    obtain ⟨ps, h1, h2, h3⟩ := H.out
    exact ⟨_, ps, Nat.le_refl _, h1, h2, impl_left.ok_all _ n hn ps h2, h3⟩
  case round =>
    obtain ⟨j, i, rfl, hj, hgg, HI, HS⟩ := hrel
    clear H
    by_cases hjm : j < m
    · have hlt : i < (talk.size : Int) := by have := HI.out; have := HSZ.out; omega
      have hi0 : 0 ≤ i := by have := HI.out; have := HSZ.out; omega
      have hi2 : i + 1 < (talk.size : Int) := by have := HI.out; have := HSZ.out; omega
      obtain ⟨i1, hi1⟩ : ∃ i1, i1 = i + 1 := ⟨_, rfl⟩
      have hw1 : IntKind.i64.wrap (i + 1) = i1 := by rw [hi1]; exact IntWalk.i64_in _ (by omega)
      have hle : i ≤ i1 := by omega
      have hi3 : i1 ≤ (talk.size : Int) := by omega
      have hi4 : 0 ≤ i1 := by omega
      have hi5 : i1 < (talk.size : Int) := by omega
      have hx12 := bt_at talk i1
      obtain ⟨b, ps, hb0, hH, hv, hok, hbel⟩ := HS.out
      obtain ⟨e1, e2⟩ := HT.out j hjm
      have ex : talk.extract i.toNat i1.toNat = Tk.wh (sp j) := by
        have h1 : i.toNat = 2 * j := by have := HI.out; have := HSZ.out; omega
        have h2 : i1.toNat = 2 * j + 1 := by have := HI.out; have := HSZ.out; omega
        rw [h1, h2, e1]
      have eb : bt talk i1 = wt j := by rw [hi1, HI.out]; exact e2
      have hbh := fun q => impl_behind.all (sp j) (wt j) b w.heap.size u5 ps (wr.drewN q) (hH.below (pw_below_drewN (Below.refl _ _) q)) hok
      have HBH := Aside0.mk (show ∀ q, Calls Try.prog 78 #[u5, .string (Tk.wh (sp j)), .int .u8 (wt j)] (wr.drewN q) fun e w' => ∃ v', e = .returned v' ∧ Aside0 (∃ (b : Nat) (ps : List Tk.PP), w.heap.size ≤ b ∧ Tk.Has 36 3 w' b w.heap.size v' ps ∧ Tk.vals ps = impl_left.rest n sp wt (j + 1) ∧ Tk.Ok ps ∧ Below w.heap.size w w') from fun q => (hbh q).mono fun e w' he => by
        obtain ⟨v', rfl, h1, h2⟩ := he
        exact ⟨v', rfl, ⟨(wr.drewN q).heap.size, _, hbel.size, h1, by rw [impl_behind.sel_vals, hv]; rfl, impl_behind.sel_ok _ _ _ hok, below_step (below_step hbel (pw_below_drewN (Below.refl _ _) q)) h2⟩⟩)
      have HI1 := Aside0.mk hi1
      clear hbh hH hv hok hbel e1 e2 hb0 hi2 hi1
      rw [ex.symm, eb.symm] at HBH
      clear ex eb
      go_wp2
      go_region_held3 (fun _ => True) (trivial) (first | (go_at_call 78; refine (HBH.out _).mono ?_; rintro e w7 ⟨v7, rfl, H7⟩))
      go_simp
      go_wp2
      go_roundg (m - (j + 1))
      case measure => omega
      case rel => exact ⟨j + 1, i + 2, by go_num, by omega, by omega, ⟨by have := HI.out; omega⟩, H7⟩
    · have hlt : ¬ i < (talk.size : Int) := by have := HI.out; have := HSZ.out; omega
      obtain rfl : j = m := by omega
      go_wp2
      go_ret
      obtain ⟨b, ps, h1, h2, h3⟩ := HS.out
      exact ⟨_, rfl, ps, h2.lower h1 (Nat.le_refl _), h3⟩

end Go.Proofs.Ytlkbphhmahipdaa.P
