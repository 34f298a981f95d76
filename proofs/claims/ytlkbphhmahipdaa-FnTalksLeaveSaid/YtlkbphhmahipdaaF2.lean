/- Calls of the functions of the given program return what the plain Lean functions of the same names return; and a row of a law out of its pure statement. Written by a program of this session out of the translation; Lean checks it. No condition. -/
import Derived.Test.YtlkbphhmahipdaaPx0
import Derived.Test.YtlkbphhmahipdaaF1
import Derived.Test.YtlkbphhmahipdaaTk
import Derived.Deep.RegionHeld3
import Derived.Test.YtlkbphhmahipdaaTs
import Derived.Test.YtlkbphhmahipdaaShl
import Derived.Test.YtlkbphhmahipdaaF0
import Derived.Test.YtlkbphhmahipdaaHlp
import Derived.BigQuiet
import Derived.Test.YtlkbphhmahipdaaNx
import Derived.Test.YtlkbphhmahipdaaAl
namespace Go.Proofs.Ytlkbphhmahipdaa.P
open Go.RowKit Go.Proofs.YtlkbphhmahipdaaW.PrintWords Go.Proofs.YtlkbphhmahipdaaW.PrintLast Go.Proofs.YtlkbphhmahipdaaW.PrintMore
attribute [local go_sem] max2_int min2_int max_two min_two max_three min_three max_four min_four   -- for this text's walks alone
set_option linter.unusedVariables false
set_option linter.unusedSimpArgs false

/-! ### impl_left: function 76, by hand -/
-- IMPORT Derived.Test.YtlkbphhmahipdaaTk
-- IMPORT Derived.Deep.RegionHeld3
theorem impl_left.row_mem (q : Int → Int → Bool) (a m : Nat) (x : List Int) (h : x ∈ impl_pairsThat.row q a m) : ∃ j : Nat, j < m ∧ x = [(a : Int), a + (j : Int)] := by
  unfold impl_pairsThat.row at h
  obtain ⟨j, hj, rfl⟩ := List.mem_map.1 h
  exact ⟨j, List.mem_range.1 (List.mem_filter.1 hj).1, rfl⟩
theorem impl_left.all_len (q : Int → Int → Bool) (n m : Nat) : (impl_pairsThat.all q n m).length ≤ m * n := by
  induction m with
  | zero => simp [impl_pairsThat.all]
  | succ m ih =>
    rw [impl_pairsThat.all_succ, List.length_append, Nat.add_mul, Nat.one_mul]
    have : (impl_pairsThat.row q (m + 1) (n - m)).length ≤ n - m := by
      unfold impl_pairsThat.row
      rw [List.length_map]
      exact Nat.le_trans (List.length_filter_le _ _) (by simp)
    omega
theorem impl_left.all_mem (q : Int → Int → Bool) (n : Nat) (x : List Int) (h : x ∈ impl_pairsThat.all q n n) : ∃ a b : Int, x = [a, b] ∧ 1 ≤ a ∧ a ≤ b ∧ b ≤ (n : Int) := by
  unfold impl_pairsThat.all at h
  obtain ⟨i, hi, h⟩ := List.mem_flatMap.1 h
  have hi := List.mem_range.1 hi
  obtain ⟨j, hj, rfl⟩ := impl_left.row_mem q (i + 1) (n - i) x h
  exact ⟨_, _, rfl, by omega, by omega, by omega⟩
theorem impl_left.ok_all (q : Int → Int → Bool) (n : Nat) (hn : n ≤ 40) (ps : List Tk.PP) (h : Tk.vals ps = impl_pairsThat.all q n n) : Tk.Ok ps := by
  refine ⟨?_, fun p hp => ?_⟩
  · have h1 := impl_left.all_len q n n
    rw [← h, Tk.vals_len] at h1
    have : n * n ≤ 40 * 40 := Nat.mul_le_mul hn hn
    omega
  · have h1 : Tk.vl p ∈ impl_pairsThat.all q n n := by rw [← h]; exact List.mem_map_of_mem hp
    obtain ⟨a, b, e, h2, h3, h4⟩ := impl_left.all_mem q n _ h1
    have e' : [p.2.1, p.2.2] = [a, b] := e
    injection e' with e1 e2
    injection e2 with e2
    omega
/-- All pairs up to n. -/
def impl_left.pairs (n : Nat) : List (List Int) := impl_pairsThat.all (fun _ _ => true) n n
set_option maxHeartbeats 1000000 in
theorem impl_allPairs.has (n : Nat) (hn : n ≤ 40) (w : World) : Calls Try.prog 92 #[.int .i64 (n : Int)] w fun e w' => ∃ v : Value, e = .returned v ∧ ∃ ps : List Tk.PP, Tk.Has 36 3 w' w.heap.size w.heap.size v ps ∧ Tk.vals ps = impl_left.pairs n ∧ Below w.heap.size w w' := by
  have eg : ∀ args w, (callFunc 122 args).run Try.prog w = .ok (.enter 122 args) w := enters_of Try.func122 (by kernel_rfl) rfl
  have hcon := impl_pairsThat.any (fun _ _ => true) 122 #[] eg n (by omega) w (fun p W _ _ => by
    go_enter Try.func122, Try.ntmps122
    go_wp2
    go_ret
    exact ⟨rfl, Below.refl _ _⟩)
  have HC := Aside0.mk hcon
  clear hcon
  go_enter Try.func92, Try.ntmps92
  go_wp2_with (go_at_call 100; refine HC.out.mono ?_; rintro e w' ⟨v, rfl, h⟩; have H := Aside0.mk h; clear h)
  go_ret
  exact ⟨_, rfl, H.out⟩
/-- What is left behind a talk's first statements. -/
def impl_left.rest (n : Nat) (sp : Nat → Bool) (wt : Nat → Int) : Nat → List (List Int)
  | 0 => impl_left.pairs n
  | j + 1 => Tk.say (sp j) (wt j) (impl_left.rest n sp wt j)
set_option maxHeartbeats 4000000 in
set_option maxRecDepth 100000 in
theorem impl_left.has (n : Nat) (hn : n ≤ 40) (talk : ByteArray) (m : Nat) (hm : m ≤ 1000) (hsz : talk.size = 2 * m) (sp : Nat → Bool) (wt : Nat → Int) (ht : ∀ j, j < m → talk.extract (2 * j) (2 * j + 1) = Tk.wh (sp j) ∧ bt talk (2 * (j : Int) + 1) = wt j) (w : World) :
    Calls Try.prog 76 #[.int .i64 (n : Int), .string talk] w fun e w' => ∃ v : Value, e = .returned v ∧ ∃ ps : List Tk.PP, Tk.Has 36 3 w' w.heap.size w.heap.size v ps ∧ Tk.vals ps = impl_left.rest n sp wt m ∧ Tk.Ok ps ∧ Below w.heap.size w w' := by
  have hall := impl_allPairs.has n hn w
  have HA := Aside0.mk hall
  have HT := Aside0.mk ht
  have HZ := Aside0.mk hsz
  have hszz : (talk.size : Int) = 2 * (m : Int) := by omega
  have HSZ := Aside0.mk hszz
  have hsb : (talk.size : Int) ≤ 2000 := by omega
  clear hall ht hsz hszz
  go_enter Try.func76, Try.ntmps76
  go_wp2_with (go_at_call 92; refine HA.out.mono ?_; rintro e w2 ⟨v, rfl, h⟩; have H := Aside0.mk h; clear h HA)
  go_loopg [5, 6] m (fun gg s5 s6 wr => ∃ (j : Nat) (i : Int), s6 = .int .i64 i ∧ j ≤ m ∧ m - j ≤ gg ∧ Aside0 (i = 2 * (j : Int)) ∧ Aside0 (∃ (b : Nat) (ps : List Tk.PP), w.heap.size ≤ b ∧ Tk.Has 36 3 wr b w.heap.size s5 ps ∧ Tk.vals ps = impl_left.rest n sp wt j ∧ Tk.Ok ps ∧ Below w.heap.size w wr))
  case atStart =>
    refine ⟨0, 0, rfl, Nat.zero_le _, by omega, ⟨rfl⟩, ⟨?_⟩⟩
    obtain ⟨ps, h1, h2, h3⟩ := H.out
    exact ⟨_, ps, Nat.le_refl _, h1, h2, impl_left.ok_all _ n hn ps h2, h3⟩
  case round =>
    obtain ⟨j, i, rfl, hj, hgg, HI, HS⟩ := hrel
    clear H
    by_cases hjm : j < m
    · have hlt : i < (talk.size : Int) := by have := HI.out; have := HSZ.out; omega
      have hi0 : 0 ≤ i := by have := HI.out; have := HSZ.out; omega
      have hi2 : i + 1 < (talk.size : Int) := by have := HI.out; have := HSZ.out; omega
      obtain ⟨i1, hi1⟩ : ∃ i1, i1 = i + 1 := ⟨_, rfl⟩
      have hw1 : IntKind.i64.wrap (i + 1) = i1 := by rw [hi1]; exact IntWalk.i64_in _ (by omega)
      have hle : i ≤ i1 := by omega
      have hi3 : i1 ≤ (talk.size : Int) := by omega
      have hi4 : 0 ≤ i1 := by omega
      have hi5 : i1 < (talk.size : Int) := by omega
      have hx12 := bt_at talk i1
      obtain ⟨b, ps, hb0, hH, hv, hok, hbel⟩ := HS.out
      obtain ⟨e1, e2⟩ := HT.out j hjm
      have ex : talk.extract i.toNat i1.toNat = Tk.wh (sp j) := by
        have h1 : i.toNat = 2 * j := by have := HI.out; have := HSZ.out; omega
        have h2 : i1.toNat = 2 * j + 1 := by have := HI.out; have := HSZ.out; omega
        rw [h1, h2, e1]
      have eb : bt talk i1 = wt j := by rw [hi1, HI.out]; exact e2
      have hbh := fun q => impl_behind.all (sp j) (wt j) b w.heap.size u5 ps (wr.drewN q) (hH.below (pw_below_drewN (Below.refl _ _) q)) hok
      have HBH := Aside0.mk (show ∀ q, Calls Try.prog 78 #[u5, .string (Tk.wh (sp j)), .int .u8 (wt j)] (wr.drewN q) fun e w' => ∃ v', e = .returned v' ∧ Aside0 (∃ (b : Nat) (ps : List Tk.PP), w.heap.size ≤ b ∧ Tk.Has 36 3 w' b w.heap.size v' ps ∧ Tk.vals ps = impl_left.rest n sp wt (j + 1) ∧ Tk.Ok ps ∧ Below w.heap.size w w') from fun q => (hbh q).mono fun e w' he => by
        obtain ⟨v', rfl, h1, h2⟩ := he
        exact ⟨v', rfl, ⟨(wr.drewN q).heap.size, _, hbel.size, h1, by rw [impl_behind.sel_vals, hv]; rfl, impl_behind.sel_ok _ _ _ hok, below_step (below_step hbel (pw_below_drewN (Below.refl _ _) q)) h2⟩⟩)
      have HI1 := Aside0.mk hi1
      clear hbh hH hv hok hbel e1 e2 hb0 hi2 hi1
      rw [ex.symm, eb.symm] at HBH
      clear ex eb
      go_wp2
      go_region_held3 (fun _ => True) (trivial) (first | (go_at_call 78; refine (HBH.out _).mono ?_; rintro e w7 ⟨v7, rfl, H7⟩))
      go_simp
      go_wp2
      go_roundg (m - (j + 1))
      case measure => omega
      case rel => exact ⟨j + 1, i + 2, by go_num, by omega, by omega, ⟨by have := HI.out; omega⟩, H7⟩
    · have hlt : ¬ i < (talk.size : Int) := by have := HI.out; have := HSZ.out; omega
      obtain rfl : j = m := by omega
      go_wp2
      go_ret
      obtain ⟨b, ps, h1, h2, h3⟩ := HS.out
      exact ⟨_, rfl, ps, h2.lower h1 (Nat.le_refl _), h3⟩

end Go.Proofs.Ytlkbphhmahipdaa.P
namespace Go.Proofs.Ytlkbphhmahipdaa.P
open Go.RowKit Go.Proofs.YtlkbphhmahipdaaW.PrintWords Go.Proofs.YtlkbphhmahipdaaW.PrintLast Go.Proofs.YtlkbphhmahipdaaW.PrintMore
attribute [local go_sem] max2_int min2_int max_two min_two max_three min_three max_four min_four   -- for this text's walks alone
set_option linter.unusedVariables false
set_option linter.unusedSimpArgs false

/-! ### spec_taPairs: function 94, by hand -/
-- IMPORT Derived.Test.YtlkbphhmahipdaaTk
-- IMPORT Derived.Test.YtlkbphhmahipdaaTs
set_option maxHeartbeats 4000000 in
set_option maxRecDepth 100000 in
theorem spec_taPairs.has (n : Nat) (hn : n ≤ 40) (w : World) :
    Calls Try.prog 94 #[.int .i64 (n : Int)] w fun e w' => ∃ v : Value, e = .returned v ∧ ∃ ps : List Tk.PP, Tk.Has 36 3 w' w.heap.size w.heap.size v ps ∧ Tk.vals ps = impl_left.pairs n ∧ Below w.heap.size w w' := by
  have hn : n ≤ 1000 := by omega
  unfold impl_left.pairs
  go_enter Try.func94, Try.ntmps94
  go_wp2
  have HS0 := Aside0.mk (show impl_pairsThat.St w w (.slice none 0 0) [] [] 0 from ⟨Tk.Has.nil _ _ _, rfl, Nat.le_refl _, Below.refl _ _⟩)
  go_loopg [3, 4] n (fun gg s5 s6 wr => ∃ (i : Nat) (a : Int) (ps : List Tk.PP), s6 = .int .i64 a ∧ i ≤ n ∧ n - i ≤ gg ∧ Aside0 (a = (i : Int) + 1) ∧ Aside0 (impl_pairsThat.St w wr s5 ps (impl_pairsThat.all (fun _ _ => true) n i) (i * 1000)))
  case atStart => exact ⟨0, 1, [], rfl, Nat.zero_le _, by omega, ⟨rfl⟩, ⟨by simpa [impl_pairsThat.all] using HS0.out⟩⟩
  case round =>
    obtain ⟨i, a, ps, rfl, hin, hgg, HA, HS⟩ := hrel
    clear HS0
    by_cases hi : i < n
    · have hiz : a ≤ (n : Int) := by have := HA.out; omega
      have ha0 : 1 ≤ a := by have := HA.out; omega
      have hN : (n : Int) ≤ 1000 := by omega
      go_wp2
      go_loopg [3, 5] (n - i) (fun gg s5 s7 wr => ∃ (j : Nat) (b : Int) (ps : List Tk.PP), s7 = .int .i64 b ∧ j ≤ n - i ∧ n - i - j ≤ gg ∧ Aside0 (b = a + j) ∧ Aside0 (impl_pairsThat.St w wr s5 ps (impl_pairsThat.all (fun _ _ => true) n i ++ impl_pairsThat.row (fun _ _ => true) (i + 1) j) (i * 1000 + j)))
      case atStart => exact ⟨0, a, ps, rfl, Nat.zero_le _, by omega, ⟨by simp⟩, ⟨by simpa [impl_pairsThat.row] using HS.out⟩⟩
      case round =>
        obtain ⟨j, b, ps, rfl, hj, hgg, HB, HS⟩ := hrel
        by_cases hjn : j < n - i
        · have hjz : b ≤ (n : Int) := by have := HA.out; have := HB.out; omega
          have hb0 : 1 ≤ b := by have := HA.out; have := HB.out; omega
          have EV := Aside0.mk (show [a, b] = [((i + 1 : Nat) : Int), ((i + 1 : Nat) : Int) + (j : Int)] by rw [HB.out, HA.out]; simp)
          have HK := Aside0.mk (show impl_pairsThat.St w (wr.alloc (.cells #[.int .i64 a, .int .i64 b] 3)) u3 ps (impl_pairsThat.all (fun _ _ => true) n i ++ impl_pairsThat.row (fun _ _ => true) (i + 1) j) (i * 1000 + j) ∧ (w.heap.size ≤ wr.heap.size ∧ (wr.alloc (.cells #[.int .i64 a, .int .i64 b] 3)).heap[wr.heap.size]? = some (.cells #[.int .i64 a, .int .i64 b] 3 (0, 0))) ∧ (∀ p ∈ ps, p.1 ≠ wr.heap.size) ∧ u3.ownBlock ≠ some wr.heap.size from by
            have hb := below_alloc (Below.refl wr.heap.size wr) (.cells #[.int .i64 a, .int .i64 b] 3)
            refine ⟨⟨HS.out.has.below hb, HS.out.val, HS.out.few, below_step HS.out.bel hb⟩, ⟨HS.out.bel.size, ?_⟩, fun p hp => ?_, fun e => ?_⟩
            · show (wr.heap.push _)[wr.heap.size]? = _
              simp
            · have := HS.out.has.inn.lt p hp; omega
            · have := (HS.out.has.lt _ e).2; omega)
          go_wp2_with ((with_reducible refine gate_builtin (b := .append) (xs := #[.tmp 17, .tmp 21]) rfl ?_); at_builtin; refine Kd.R_append Tk.KP (w0 := w) (W := wr.alloc (.cells #[.int .i64 a, .int .i64 b] 3)) w.heap.size rfl (.tmp 17) (.tmp 21) 25 36 (.slice none 0 0) 24 rfl Try.underlying25 (by kernel_rfl) rfl (by decide) (by omega) u3 ps (wr.heap.size, a, b) [.slice (some ⟨wr.heap.size, 0, none⟩) 2 2] (fun _ => True) (fun _ => False) rfl (by first | (go_simp; done) | (go_simp; rfl)) rfl (fun _ hk => hk.elim) (fun _ _ => trivial) HK.out.1.has.R HK.out.1.bel HK.out.1.bel.size (by have := HK.out.1.few; omega) ?_; intro v3 w3 ho hb hg hat; have HO := Aside0.mk (HK.out.1.has.push (wr.heap.size, a, b) HK.out.2.1 HK.out.2.2.1 HK.out.2.2.2 ho hg hat); have HB3 := Aside0.mk hb; clear ho hb hg hat)
          go_roundg (n - i - (j + 1))
          case measure => omega
          case rel =>
            exact ⟨j + 1, b + 1, ps ++ [(wr.heap.size, a, b)], by go_num, by omega, by omega, ⟨by have := HB.out; omega⟩, ⟨HO.out, by rw [impl_pairsThat.row_yes (fun _ _ => true) (i + 1) j rfl, ← List.append_assoc, ← EV.out, ← HK.out.1.val]; simp [Tk.vals, Tk.vl], by rw [List.length_append, List.length_singleton]; have := HK.out.1.few; omega, HB3.out⟩⟩
        · have hjz : ¬ b ≤ (n : Int) := by have := HA.out; have := HB.out; omega
          obtain rfl : j = n - i := by omega
          go_wp2
          go_roundg (n - (i + 1))
          case measure => omega
          case rel => exact ⟨i + 1, a + 1, ps, by go_num, by omega, by omega, ⟨by have := HA.out; omega⟩, ⟨HS.out.has, by rw [impl_pairsThat.all_succ]; exact HS.out.val, by have := HS.out.few; omega, HS.out.bel⟩⟩
    · have hiz : ¬ a ≤ (n : Int) := by have := HA.out; omega
      obtain rfl : i = n := by omega
      go_wp2
      go_ret
      exact ⟨_, rfl, _, HS.out.has, HS.out.val, HS.out.bel⟩
def spec_taPairs.f (n : Int) : Option (List (List Int)) := if 0 ≤ n ∧ n ≤ 40 then some (impl_left.pairs n.toNat) else none
theorem spec_taPairs.calls (n : Int) (r : List (List Int)) (w : World) (h : spec_taPairs.f n = some r) :
    Calls Try.prog 94 #[.int .i64 n] w fun e w' => ∃ v0_ : Value, e = .returned v0_ ∧ Kd.S (Kd.slice 3 (Kd.int .i64)) 36 w' w.heap.size (fun _ => True) v0_ r ∧ Below w.heap.size w w' := by
  have hc : 0 ≤ n ∧ n ≤ 40 := by
    unfold spec_taPairs.f at h
    split at h
    · assumption
    · cases h
  unfold spec_taPairs.f at h
  rw [if_pos hc] at h
  obtain rfl := Option.some.inj h
  obtain ⟨m, rfl⟩ := Int.eq_ofNat_of_zero_le hc.1
  exact (spec_taPairs.has m (by omega) w).mono fun e w' he => by
    obtain ⟨v, rfl, ps, h1, h2, h3⟩ := he
    have hS := h1.S (Nat.le_refl _) (Nat.le_refl _)
    rw [h2] at hS
    exact ⟨v, rfl, hS, h3⟩

end Go.Proofs.Ytlkbphhmahipdaa.P
namespace Go.Proofs.Ytlkbphhmahipdaa.P
open Go.RowKit Go.Proofs.YtlkbphhmahipdaaW.PrintWords Go.Proofs.YtlkbphhmahipdaaW.PrintLast Go.Proofs.YtlkbphhmahipdaaW.PrintMore
attribute [local go_sem] max2_int min2_int max_two min_two max_three min_three max_four min_four   -- for this text's walks alone
set_option linter.unusedVariables false
set_option linter.unusedSimpArgs false

/-! ### impl_between: function 107 -/
def impl_between.f (a0 : Int) (a1 : Int) (a2 : Int) : Option (Bool) := if a0 ≥ a1 then (some (decide (a0 ≤ a2))) else (some false)
set_option maxHeartbeats 8000000 in
set_option maxRecDepth 100000 in
theorem impl_between.calls (a0 : Int) (a1 : Int) (a2 : Int) (r : Bool) (w : World) (h : impl_between.f a0 a1 a2 = some r) :
    Calls Try.prog 107 #[.int .i64 a0, .int .i64 a1, .int .i64 a2] w fun e w' => e = .returned (.bool r) ∧ Drawn0 w w' := by
  have H : (if a0 ≥ a1 then (some (decide (a0 ≤ a2))) else (some false)) = some r := h
  clear h
  by_cases c4 : a0 ≥ a1
  · rw [if_pos c4] at H
    have c4b0 : decide (a1 ≤ a0) = true := decide_eq_true c4
    clear c4
    obtain rfl := Option.some.inj H
    go_enter Try.func107, Try.ntmps107
    go_wp2
    go_ret
    exact ⟨by first | rfl | (simp; done) | (simp [*]; done), by repeat (first | exact Drawn0.refl _ | apply Drawn0.step)⟩
  · rw [if_neg c4] at H
    have c4b0 : decide (a1 ≤ a0) = false := decide_eq_false c4
    clear c4
    obtain rfl := Option.some.inj H
    go_enter Try.func107, Try.ntmps107
    go_wp2
    go_ret
    exact ⟨by first | rfl | (simp; done) | (simp [*]; done), by repeat (first | exact Drawn0.refl _ | apply Drawn0.step)⟩

/-! ### impl_isMost: function 74 -/
def impl_isMost.f (a0 : Int) : Option (Bool) := (impl_between.f a0 2 40).bind fun t116 => (some t116)
set_option maxHeartbeats 8000000 in
set_option maxRecDepth 100000 in
theorem impl_isMost.calls (a0 : Int) (r : Bool) (w : World) (h : impl_isMost.f a0 = some r) :
    Calls Try.prog 74 #[.int .i64 a0] w fun e w' => e = .returned (.bool r) ∧ Drawn0 w w' := by
  have H : ((impl_between.f a0 2 40).bind fun t116 => (some t116)) = some r := h
  clear h
  replace H := Option.bind_eq_some_iff.mp H
  obtain ⟨t116, A20, H⟩ := H
  replace H : (some t116) = some r := H
  have A2 := Aside0.mk A20
  clear A20
  obtain rfl := Option.some.inj H
  go_enter Try.func74, Try.ntmps74
  go_wp2_with (first | ((with_reducible refine gate_callee (f := 107) rfl ?_); refine goesL_ (some 4) rfl rfl Try.func107 (by kernel_rfl) rfl #[.int .i64 a0, .int .i64 2, .int .i64 40] rfl (by (try simp only [List.map_toArray, List.map_cons, List.map_nil]); first | done | rfl | (simp only [List.length_drop, List.length_take]; rfl)) ?_; (with_reducible refine (impl_between.calls a0 2 40 t116 _ A2.out).mono ?_); rintro e w' ⟨rfl, ⟨nd, rfl⟩⟩; refine ⟨_, rfl, ?_⟩))
  go_ret
  exact ⟨by first | rfl | (simp; done) | (simp [*]; done), by repeat (first | exact Drawn0.refl _ | apply Drawn0.step)⟩

/-! ### impl_isWho: function 87 -/
def impl_isWho.f (a0 : ByteArray) : Option (Bool) := if a0.toList = ([115] : List UInt8) then (some true) else (some (a0.toList == ([112] : List UInt8)))
set_option maxHeartbeats 8000000 in
set_option maxRecDepth 100000 in
theorem impl_isWho.calls (a0 : ByteArray) (r : Bool) (w : World) (h : impl_isWho.f a0 = some r) :
    Calls Try.prog 87 #[.string a0] w fun e w' => e = .returned (.bool r) ∧ Drawn0 w w' := by
  have H : (if a0.toList = ([115] : List UInt8) then (some true) else (some (a0.toList == ([112] : List UInt8)))) = some r := h
  clear h
  by_cases c2 : a0.toList = ([115] : List UInt8)
  · rw [if_pos c2] at H
    have c2b0 : (a0.toList == ([115] : List UInt8)) = true := beq_iff_eq.mpr c2
    have c2b1 : (a0.toList != ([115] : List UInt8)) = false := bne_eq_false_iff_eq.mpr c2
    clear c2
    obtain rfl := Option.some.inj H
    go_enter Try.func87, Try.ntmps87
    go_wp2
    go_ret
    exact ⟨by first | rfl | (simp; done) | (simp [*]; done), by repeat (first | exact Drawn0.refl _ | apply Drawn0.step)⟩
  · rw [if_neg c2] at H
    have c2b0 : (a0.toList == ([115] : List UInt8)) = false := beq_eq_false_iff_ne.mpr c2
    have c2b1 : (a0.toList != ([115] : List UInt8)) = true := bne_iff_ne.mpr c2
    obtain rfl := Option.some.inj H
    go_enter Try.func87, Try.ntmps87
    go_wp2
    go_ret
    exact ⟨by first | rfl | (simp; done) | (simp [*]; done), by repeat (first | exact Drawn0.refl _ | apply Drawn0.step)⟩

-- NOT PRINTED: function 128 (bytealg_IndexByteString)

-- NOT PRINTED: function 123 (stringslite_IndexByte)

-- NOT PRINTED: function 108 (strings_IndexByte)

end Go.Proofs.Ytlkbphhmahipdaa.P
namespace Go.Proofs.Ytlkbphhmahipdaa.P
open Go.RowKit Go.Proofs.YtlkbphhmahipdaaW.PrintWords Go.Proofs.YtlkbphhmahipdaaW.PrintLast Go.Proofs.YtlkbphhmahipdaaW.PrintMore
attribute [local go_sem] max2_int min2_int max_two min_two max_three min_three max_four min_four   -- for this text's walks alone
set_option linter.unusedVariables false
set_option linter.unusedSimpArgs false

/-! ### impl_isTalk: function 75, by hand -/
-- IMPORT Derived.Test.YtlkbphhmahipdaaTk
-- IMPORT Derived.Test.YtlkbphhmahipdaaShl
/-- Is a text a talk? -/
def impl_isTalk.one (talk : ByteArray) (j : Nat) : Bool := (decide (bt talk (2 * (j : Int)) = 115) || decide (bt talk (2 * (j : Int)) = 112)) && (decide (bt talk (2 * (j : Int) + 1) = 45) || decide (bt talk (2 * (j : Int) + 1) = 43) || decide (bt talk (2 * (j : Int) + 1) = 33))
def impl_isTalk.ok (talk : ByteArray) : Bool := decide (talk.size % 2 = 0) && decide (talk.size ≤ 24) && (List.range (talk.size / 2)).all (impl_isTalk.one talk)
theorem impl_isTalk.cut (talk : ByteArray) (i : Nat) (h : i < talk.size) : talk.extract i (i + 1) = ⟨#[talk[i]]⟩ := by
  apply ByteArray.ext
  rw [ByteArray.data_extract]
  apply Array.ext
  · have : talk.data.size = talk.size := rfl
    simp; omega
  · intro j h1 h2
    have : j = 0 := by simp at h2; omega
    subst this
    simp
    rfl
theorem impl_isTalk.who (talk : ByteArray) (i : Nat) (h : i < talk.size) : impl_isWho.f (talk.extract i (i + 1)) = some (decide (bt talk (i : Int) = 115) || decide (bt talk (i : Int) = 112)) := by
  rw [impl_isTalk.cut talk i h]
  have hb : bt talk (i : Int) = (talk[i].toNat : Int) := by simp [bt, h]
  rw [hb]
  generalize talk[i] = b
  have hl : (⟨#[b]⟩ : ByteArray).toList = [b] := by rw [ByteArray.toList_eq]
  unfold impl_isWho.f
  rw [hl]
  have h115 : ([b] = ([115] : List UInt8)) ↔ ((b.toNat : Int) = 115) := by
    constructor
    · intro e; injection e with e; subst e; rfl
    · intro e; have : b = 115 := UInt8.toNat_inj.1 (by have : b.toNat = 115 := by omega
                                                       rw [this]; rfl)
      rw [this]
  have h112 : ([b] == ([112] : List UInt8)) = decide ((b.toNat : Int) = 112) := by
    rw [Bool.eq_iff_iff, beq_iff_eq, decide_eq_true_eq]
    constructor
    · intro e; injection e with e; subst e; rfl
    · intro e; have : b = 112 := UInt8.toNat_inj.1 (by have : b.toNat = 112 := by omega
                                                       rw [this]; rfl)
      rw [this]
  by_cases h : (b.toNat : Int) = 115
  · rw [if_pos (h115.2 h)]; simp [h]
  · rw [if_neg (fun e => h (h115.1 e)), h112]; simp [h]
set_option maxRecDepth 100000 in
theorem impl_isTalk.idx (c : Int) (h : 0 ≤ c ∧ c ≤ 255) : decide (Lib.indexByte [45, 43, 33] c.toNat.toUInt8 < 0) = !(decide (c = 45) || decide (c = 43) || decide (c = 33)) := by
  obtain ⟨n, rfl⟩ := Int.eq_ofNat_of_zero_le h.1
  have hn : n < 256 := by omega
  have key : ∀ n : Fin 256, decide (Lib.indexByte [45, 43, 33] n.val.toUInt8 < 0) = !(decide (n.val = 45) || decide (n.val = 43) || decide (n.val = 33)) := by decide
  have k := key ⟨n, hn⟩
  have e : ∀ q : Nat, decide ((n : Int) = (q : Int)) = decide (n = q) := fun q => by rw [decide_eq_decide]; omega
  rw [show ((45 : Int)) = ((45 : Nat) : Int) from rfl, show ((43 : Int)) = ((43 : Nat) : Int) from rfl, show ((33 : Int)) = ((33 : Nat) : Int) from rfl, e, e, e, Int.toNat_natCast]
  exact k
def impl_isTalk.f (talk : ByteArray) : Option Bool := if talk.size ≤ 1048576 then some (impl_isTalk.ok talk) else none
set_option maxHeartbeats 4000000 in
set_option maxRecDepth 100000 in
theorem impl_isTalk.calls (talk : ByteArray) (r : Bool) (w : World) (h : impl_isTalk.f talk = some r) :
    Calls Try.prog 75 #[.string talk] w fun e w' => e = .returned (.bool r) ∧ Below w.heap.size w w' := by
  have hsz : talk.size ≤ 1048576 := by
    unfold impl_isTalk.f at h
    split at h
    · assumption
    · cases h
  obtain rfl : impl_isTalk.ok talk = r := by unfold impl_isTalk.f at h; rw [if_pos hsz] at h; exact Option.some.inj h
  clear h
  by_cases h1 : talk.size % 2 = 0
  · by_cases h2 : talk.size ≤ 24
    · obtain ⟨m, hm⟩ : ∃ m, talk.size = 2 * m := ⟨talk.size / 2, by omega⟩
      have eok : impl_isTalk.ok talk = (List.range m).all (impl_isTalk.one talk) := by
        have : talk.size / 2 = m := by omega
        simp [impl_isTalk.ok, h1, h2, this]
      rw [eok]
      have hz1 : (talk.size : Int).tmod 2 = 0 := by rw [Int.tmod_eq_emod_of_nonneg (by omega)]; omega
      have hz2 : (talk.size : Int) ≤ 24 := by omega
      have T87 : Aside0 (∀ j : Nat, j < m → ∀ W, Calls Try.prog 87 #[.string (talk.extract (2 * j) (2 * j + 1))] W fun e w' => e = .returned (.bool (decide (bt talk (2 * (j : Int)) = 115) || decide (bt talk (2 * (j : Int)) = 112))) ∧ ∃ q, w' = W.drewN q) := ⟨fun j hj W => by
        have := impl_isTalk.who talk (2 * j) (by omega)
        rw [show ((2 * j : Nat) : Int) = 2 * (j : Int) by omega] at this
        exact (impl_isWho.calls _ _ W this).mono fun e w' h => ⟨h.1, h.2.out⟩⟩
      have T108 : Aside0 (∀ c : Int, 0 ≤ c → c ≤ 255 → ∀ W, Calls Try.prog 108 #[.string ⟨#[45, 43, 33]⟩, .int .u8 c] W fun e w' => ∃ q, e = .returned (.int .i64 q) ∧ w' = W ∧ (decide (q < 0) = !(decide (c = 45) || decide (c = 43) || decide (c = 33)))) := ⟨fun c h0 h3 W =>
        (Try.strings_IndexByte ⟨#[45, 43, 33]⟩ c W).mono fun e w' h => ⟨_, h.1, h.2, impl_isTalk.idx c ⟨h0, h3⟩⟩⟩
      clear eok
      go_enter Try.func75, Try.ntmps75
      go_wp2
      go_loopg [3] m (fun gg s3 wr => ∃ (j : Nat) (i : Int), s3 = .int .i64 i ∧ j ≤ m ∧ m - j ≤ gg ∧ Aside0 (i = 2 * (j : Int) ∧ (List.range j).all (impl_isTalk.one talk) = true) ∧ Aside0 (Below w.heap.size w wr))
      case atStart => exact ⟨0, 0, rfl, Nat.zero_le _, by omega, ⟨rfl, rfl⟩, ⟨Below.refl _ _⟩⟩
      case round =>
        obtain ⟨j, i, rfl, hj, hgg, HI, HB⟩ := hrel
        by_cases hjm : j < m
        · have hi0 : 0 ≤ i := by have := HI.out.1; omega
          have hlt : i < 2 * (m : Int) := by have := HI.out.1; omega
          have hi1 : i + 1 < 2 * (m : Int) := by have := HI.out.1; omega
          have hi2 : i + 1 ≤ 2 * (m : Int) := by omega
          have hi3 : i ≤ i + 1 := by omega
          have hi4 : 0 ≤ i + 1 := by omega
          have hm24 : 2 * (m : Int) ≤ 24 := by omega
          have hx12 := bt_at talk (i + 1)
          have hr := bt_range talk (i + 1)
          have T1 := Aside0.mk (T87.out j hjm)
          have T2 := Aside0.mk (T108.out (bt talk (i + 1)) hr.1 hr.2)
          have e1 : 2 * j = i.toNat := by have := HI.out.1; omega
          have e2 : 2 * j + 1 = (i + 1).toNat := by have := HI.out.1; omega
          have e3 : 2 * (j : Int) = i := by have := HI.out.1; omega
          rw [e2, e1, e3] at T1
          have HALL := Aside0.mk (show (impl_isTalk.one talk j = true → (List.range (j + 1)).all (impl_isTalk.one talk) = true) ∧ (impl_isTalk.one talk j = false → (List.range m).all (impl_isTalk.one talk) = false) from ⟨fun h => by rw [List.range_succ, List.all_append, HI.out.2]; simp [h], fun h => List.all_eq_false.2 ⟨j, List.mem_range.2 hjm, by simp [h]⟩⟩)
          have EO : impl_isTalk.one talk j = ((decide (bt talk i = 115) || decide (bt talk i = 112)) && (decide (bt talk (i + 1) = 45) || decide (bt talk (i + 1) = 43) || decide (bt talk (i + 1) = 33))) := by unfold impl_isTalk.one; rw [e3]
          rw [EO] at HALL
          clear EO e1 e2 e3 hr
          cases hb : (decide (bt talk i = 115) || decide (bt talk i = 112)) with
          | false =>
            rw [hb] at T1 HALL
            clear hb T2
            go_wp2_with (go_at_call 87; refine (T1.out _).mono ?_; rintro e w2 ⟨rfl, q, rfl⟩)
            go_ret
            exact ⟨by rw [HALL.out.2 rfl]; rfl, below_step HB.out (pw_below_drewN (Below.refl _ _) q)⟩
          | true =>
            rw [hb] at T1 HALL
            clear hb
            cases hb3 : (decide (bt talk (i + 1) = 45) || decide (bt talk (i + 1) = 43) || decide (bt talk (i + 1) = 33)) with
            | false =>
              rw [hb3] at T2 HALL
              clear hb3
              go_wp2_with (first
                | (go_at_call 87; refine (T1.out _).mono ?_; rintro e w2 ⟨rfl, q, rfl⟩)
                | (go_at_call 108; refine (T2.out _).mono ?_; rintro e w3 ⟨x, rfl, rfl, hx⟩; have hx := of_decide_eq_true hx))
              go_ret
              exact ⟨by rw [HALL.out.2 rfl]; rfl, below_step HB.out (pw_below_drewN (Below.refl _ _) q)⟩
            | true =>
              rw [hb3] at T2 HALL
              clear hb3
              go_wp2_with (first
                | (go_at_call 87; refine (T1.out _).mono ?_; rintro e w2 ⟨rfl, q, rfl⟩)
                | (go_at_call 108; refine (T2.out _).mono ?_; rintro e w3 ⟨x, rfl, rfl, hx⟩; have hx := of_decide_eq_false hx))
              go_roundg (m - (j + 1))
              case measure => omega
              case rel => exact ⟨j + 1, i + 2, by go_num, by omega, by omega, ⟨by have := HI.out.1; omega, HALL.out.1 rfl⟩, ⟨below_step HB.out (pw_below_drewN (Below.refl _ _) q)⟩⟩
        · have hlt : ¬ i < 2 * (m : Int) := by have := HI.out.1; omega
          obtain rfl : j = m := by omega
          go_wp2
          go_ret
          exact ⟨by rw [HI.out.2]; rfl, HB.out⟩
    · have e : impl_isTalk.ok talk = false := by simp [impl_isTalk.ok, h2]
      rw [e]
      have hz1 : (talk.size : Int).tmod 2 = 0 := by rw [Int.tmod_eq_emod_of_nonneg (by omega)]; omega
      have hz2 : (24 : Int) < (talk.size : Int) := by omega
      clear e h1 h2
      go_enter Try.func75, Try.ntmps75
      go_wp2
      go_ret
      exact ⟨rfl, Below.refl _ _⟩
  · have e : impl_isTalk.ok talk = false := by simp [impl_isTalk.ok, h1]
    rw [e]
    have hz1 : ¬ (talk.size : Int).tmod 2 = 0 := by rw [Int.tmod_eq_emod_of_nonneg (by omega)]; omega
    clear e h1
    go_enter Try.func75, Try.ntmps75
    go_wp2
    go_ret
    exact ⟨rfl, Below.refl _ _⟩

end Go.Proofs.Ytlkbphhmahipdaa.P
namespace Go.Proofs.Ytlkbphhmahipdaa.P
open Go.RowKit Go.Proofs.YtlkbphhmahipdaaW.PrintWords Go.Proofs.YtlkbphhmahipdaaW.PrintLast Go.Proofs.YtlkbphhmahipdaaW.PrintMore
attribute [local go_sem] max2_int min2_int max_two min_two max_three min_three max_four min_four   -- for this text's walks alone
set_option linter.unusedVariables false
set_option linter.unusedSimpArgs false

/-! ### slices_ContainsFunc_int_int: function 115, by hand -/
-- IMPORT Derived.Test.YtlkbphhmahipdaaHlp
-- IMPORT Derived.Test.YtlkbphhmahipdaaTk
set_option maxHeartbeats 1000000 in
/-- slices.ContainsFunc at rows of pairs: is there an element of which p holds. -/
theorem slices_ContainsFunc_PP.any (p : Tk.PP → Bool) (g : Nat) (lb : Array Value) (eg : ∀ args w, (callFunc g args).run Try.prog w = .ok (.enter g args) w) (A0 : Option Addr) (c0 : Nat) (l0 : List Tk.PP) (w : World) (hr0 : ∀ i, (hi : i < l0.length) → ∃ ad, A0 = some ad ∧ w.cell? (ad.add i) = some (Tk.cv l0[i])) (hlen : l0.length ≤ 9223372036854775807)
    (hp : ∀ x, x ∈ l0 → ∀ W, Below w.heap.size w W → Calls Try.prog g (#[Tk.cv x] ++ lb) W fun e w' => e = .returned (.bool (p x)) ∧ Below W.heap.size W w') :
    Calls Try.prog 115 #[.slice A0 l0.length c0, .func (.func g) #[] lb] w fun e w' => e = .returned (.bool (l0.any p)) ∧ Below w.heap.size w w' := by
  rw [← Hlp.fidx_any]
  have hcon := slices_IndexFunc_PP.any p g lb eg A0 c0 l0 w hr0 hlen hp
  have HC : Aside0 _ := ⟨hcon⟩
  clear hcon hr0 hp
  go_enter Try.func115, Try.ntmps115
  go_wp2_with (go_at_call 124; refine HC.out.mono ?_; rintro e w' ⟨rfl, hb⟩)
  go_ret
  exact ⟨rfl, hb⟩

end Go.Proofs.Ytlkbphhmahipdaa.P
namespace Go.Proofs.Ytlkbphhmahipdaa.P
open Go.RowKit Go.Proofs.YtlkbphhmahipdaaW.PrintWords Go.Proofs.YtlkbphhmahipdaaW.PrintLast Go.Proofs.YtlkbphhmahipdaaW.PrintMore
attribute [local go_sem] max2_int min2_int max_two min_two max_three min_three max_four min_four   -- for this text's walks alone
set_option linter.unusedVariables false
set_option linter.unusedSimpArgs false

/-! ### impl_isTrue: function 81, by hand -/
-- IMPORT Derived.Test.YtlkbphhmahipdaaTk
-- IMPORT Derived.BigQuiet
/-- A pair is among some. -/
def impl_isTrue.has_ (xs : List (List Int)) (a b : Int) : Bool := xs.any fun x => decide (rd x 0 = a) && decide (rd x 1 = b)
set_option maxHeartbeats 4000000 in
set_option maxRecDepth 100000 in
theorem impl_isTrue.clo (a b : Int) (B5 B6 lo : Nat) (p : Tk.PP) (W : World) (hinn : Tk.Inn 3 W lo [p]) (h5 : W.cell? ⟨B5, 0, none⟩ = some (.int .i64 a)) (h6 : W.cell? ⟨B6, 0, none⟩ = some (.int .i64 b)) :
    Calls Try.prog 116 #[Tk.cv p, .pointer (some ⟨B5, 0, none⟩), .pointer (some ⟨B6, 0, none⟩)] W fun e w' => e = .returned (.bool (decide (p.2.1 = a) && decide (p.2.2 = b))) ∧ Below W.heap.size W w' := by
  obtain ⟨g, x, y⟩ := p
  obtain ⟨c0, c1⟩ := hinn.cells (g, x, y) (by simp)
  dsimp only at c0 c1 ⊢
  unfold Tk.cv
  clear hinn
  by_cases hx : x = a
  · subst hx
    go_enter Try.func116, Try.ntmps116
    go_wp2_with fail
    go_quiet (fail)
    go_wp2
    go_ret
    refine ⟨?_, ⟨rfl, rfl, rfl, Nat.le_refl _, fun _ _ => rfl⟩⟩
    by_cases h : y = b <;> simp [h]
  · have hxb : (x == a) = false := by simpa using hx
    go_enter Try.func116, Try.ntmps116
    go_wp2_with fail
    go_quiet (fail)
    go_wp2
    go_ret
    exact ⟨by simp [hx], ⟨rfl, rfl, rfl, Nat.le_refl _, fun _ _ => rfl⟩⟩
set_option maxHeartbeats 4000000 in
set_option maxRecDepth 100000 in
theorem impl_isTrue.has (n : Nat) (hn : n ≤ 40) (a b : Int) (talk : ByteArray) (m : Nat) (hm : m ≤ 1000) (hsz : talk.size = 2 * m) (sp : Nat → Bool) (wt : Nat → Int) (ht : ∀ j, j < m → talk.extract (2 * j) (2 * j + 1) = Tk.wh (sp j) ∧ bt talk (2 * (j : Int) + 1) = wt j) (w : World) :
    Calls Try.prog 81 #[.int .i64 (n : Int), .int .i64 a, .int .i64 b, .string talk] w fun e w' => e = .returned (.bool (impl_isTrue.has_ (impl_left.rest n sp wt m) a b)) ∧ Below w.heap.size w w' := by
  have TL := Aside0.mk (fun W => impl_left.has n hn talk m hm hsz sp wt ht W)
  have eg : ∀ args w, (callFunc 116 args).run Try.prog w = .ok (.enter 116 args) w := enters_of Try.func116 (by kernel_rfl) rfl
  have TC : Aside0 (∀ B5 B6 W base lo A c ps, Tk.Has 36 3 W base lo (.slice A ps.length c) ps → W.cell? ⟨B5, 0, none⟩ = some (.int .i64 a) → W.cell? ⟨B6, 0, none⟩ = some (.int .i64 b) → Tk.vals ps = impl_left.rest n sp wt m → Calls Try.prog 115 #[.slice A ps.length c, .func (.func 116) #[] #[.pointer (some ⟨B5, 0, none⟩), .pointer (some ⟨B6, 0, none⟩)]] W fun e w' => e = .returned (.bool (impl_isTrue.has_ (impl_left.rest n sp wt m) a b)) ∧ Aside0 (Below W.heap.size W w')) := ⟨fun B5 B6 W base lo A c ps hH h5 h6 hv => by
    have hcon := slices_ContainsFunc_PP.any (fun p => decide (p.2.1 = a) && decide (p.2.2 = b)) 116 #[.pointer (some ⟨B5, 0, none⟩), .pointer (some ⟨B6, 0, none⟩)] eg A c ps W (fun i hi => by
      obtain ⟨g, cap, e, hc⟩ := hH.at_ i hi
      injection e with e1 e2 e3
      exact ⟨_, e1, by rw [add_plain]; exact hc⟩) (by obtain ⟨_, _, _, _, h⟩ := hH.slice; exact h) (fun x hx W' hW => impl_isTrue.clo a b B5 B6 lo x W' ((hH.inn.below hW).sub (fun p hp => by rw [List.mem_singleton.1 hp]; exact hx)) (pw_cell_below hW h5) (pw_cell_below hW h6))
    have e : ps.any (fun p => decide (p.2.1 = a) && decide (p.2.2 = b)) = impl_isTrue.has_ (impl_left.rest n sp wt m) a b := by
      rw [← hv, impl_isTrue.has_, Tk.vals, List.any_map]
      rfl
    rw [← e]
    exact hcon.mono fun e w' he => ⟨he.1, ⟨he.2⟩⟩⟩
  clear ht hsz eg
  have hb2 : Below w.heap.size w ((w.alloc (.cells #[.int .i64 a] 3)).alloc (.cells #[.int .i64 b] 3)) := below_alloc (below_alloc (Below.refl _ _) _) _
  have HB2 := Aside0.mk hb2
  have HC5 := Aside0.mk (show ((w.alloc (.cells #[.int .i64 a] 3)).alloc (.cells #[.int .i64 b] 3)).cell? ⟨w.heap.size, 0, none⟩ = some (.int .i64 a) ∧ ((w.alloc (.cells #[.int .i64 a] 3)).alloc (.cells #[.int .i64 b] 3)).cell? ⟨w.heap.size + 1, 0, none⟩ = some (.int .i64 b) from ⟨by simp, by simp⟩)
  clear hb2
  go_enter Try.func81, Try.ntmps81
  go_wp2_with (first
    | (go_at_call 76; refine (TL.out _).mono ?_; rintro e w3 ⟨v3, rfl, ps, hH, hv, _, hb⟩; obtain ⟨A3, c3, e3, _⟩ := hH.slice; subst e3; have R3 := Aside0.mk (show _ ∧ _ ∧ _ from ⟨hH, hv, hb⟩); clear hH hv hb)
    | (go_at_call 115; refine (TC.out _ _ _ _ _ _ _ _ R3.out.1 (pw_cell_below R3.out.2.2 HC5.out.1) (pw_cell_below R3.out.2.2 HC5.out.2) R3.out.2.1).mono ?_; rintro e w4 ⟨rfl, h4⟩))
  go_ret
  exact ⟨rfl, below_step (below_step HB2.out R3.out.2.2) h4.out⟩
/-- Who speaks, and what is said, in a talk's statement j. -/
def impl_isTrue.sp (talk : ByteArray) (j : Nat) : Bool := decide (bt talk (2 * (j : Int)) = 115)
def impl_isTrue.wt (talk : ByteArray) (j : Nat) : Int := bt talk (2 * (j : Int) + 1)
/-- What is left behind a talk. -/
def impl_isTrue.lft (n : Int) (talk : ByteArray) : List (List Int) := impl_left.rest n.toNat (impl_isTrue.sp talk) (impl_isTrue.wt talk) (talk.size / 2)
theorem impl_isTrue.parts (talk : ByteArray) (h : impl_isTalk.ok talk = true) : talk.size = 2 * (talk.size / 2) ∧ talk.size / 2 ≤ 12 ∧ (∀ j, j < talk.size / 2 → talk.extract (2 * j) (2 * j + 1) = Tk.wh (impl_isTrue.sp talk j) ∧ bt talk (2 * (j : Int) + 1) = impl_isTrue.wt talk j) ∧ ∀ j, j < talk.size / 2 → impl_isTrue.wt talk j = 45 ∨ impl_isTrue.wt talk j = 43 ∨ impl_isTrue.wt talk j = 33 := by
  unfold impl_isTalk.ok at h
  simp only [Bool.and_eq_true, decide_eq_true_eq] at h
  obtain ⟨⟨h1, h2⟩, h3⟩ := h
  have h4 : ∀ j, j < talk.size / 2 → impl_isTalk.one talk j = true := fun j hj => List.all_eq_true.1 h3 j (List.mem_range.2 hj)
  refine ⟨by omega, by omega, fun j hj => ⟨?_, rfl⟩, fun j hj => ?_⟩
  · have h5 := h4 j hj
    unfold impl_isTalk.one at h5
    simp only [Bool.and_eq_true, Bool.or_eq_true, decide_eq_true_eq] at h5
    have hlt : 2 * j < talk.size := by omega
    rw [impl_isTalk.cut talk (2 * j) hlt]
    have hb : bt talk (2 * (j : Int)) = (talk[2 * j].toNat : Int) := by
      rw [show 2 * (j : Int) = ((2 * j : Nat) : Int) by omega]
      have hq := (bt_at talk ((2 * j : Nat) : Int) (by rw [Int.toNat_natCast]; exact hlt)).symm
      simp only [Int.toNat_natCast] at hq
      exact hq
    unfold impl_isTrue.sp
    rw [hb] at h5 ⊢
    generalize talk[2 * j] = b at h5 ⊢
    rcases h5.1 with e | e
    · obtain rfl : b = 115 := UInt8.toNat_inj.1 (by have : b.toNat = 115 := by omega
                                                    rw [this]; rfl)
      rfl
    · obtain rfl : b = 112 := UInt8.toNat_inj.1 (by have : b.toNat = 112 := by omega
                                                    rw [this]; rfl)
      rfl
  · have h5 := h4 j hj
    unfold impl_isTalk.one at h5
    simp only [Bool.and_eq_true, Bool.or_eq_true, decide_eq_true_eq] at h5
    unfold impl_isTrue.wt
    omega
def impl_isTrue.f (n a b : Int) (talk : ByteArray) : Option Bool := if (0 ≤ n ∧ n ≤ 40) ∧ impl_isTalk.ok talk = true then some (impl_isTrue.has_ (impl_isTrue.lft n talk) a b) else none
theorem impl_isTrue.calls (n a b : Int) (talk : ByteArray) (r : Bool) (w : World) (h : impl_isTrue.f n a b talk = some r) :
    Calls Try.prog 81 #[.int .i64 n, .int .i64 a, .int .i64 b, .string talk] w fun e w' => e = .returned (.bool r) ∧ Below w.heap.size w w' := by
  have hc : (0 ≤ n ∧ n ≤ 40) ∧ impl_isTalk.ok talk = true := by
    unfold impl_isTrue.f at h
    split at h
    · assumption
    · cases h
  obtain rfl : impl_isTrue.has_ (impl_isTrue.lft n talk) a b = r := by unfold impl_isTrue.f at h; rw [if_pos hc] at h; exact Option.some.inj h
  obtain ⟨h1, h2, h3, _⟩ := impl_isTrue.parts talk hc.2
  obtain ⟨m, rfl⟩ := Int.eq_ofNat_of_zero_le hc.1.1
  exact impl_isTrue.has m (by omega) a b talk (talk.size / 2) (by omega) h1 _ _ h3 w

end Go.Proofs.Ytlkbphhmahipdaa.P
namespace Go.Proofs.Ytlkbphhmahipdaa.P
open Go.RowKit Go.Proofs.YtlkbphhmahipdaaW.PrintWords Go.Proofs.YtlkbphhmahipdaaW.PrintLast Go.Proofs.YtlkbphhmahipdaaW.PrintMore
attribute [local go_sem] max2_int min2_int max_two min_two max_three min_three max_four min_four   -- for this text's walks alone
set_option linter.unusedVariables false
set_option linter.unusedSimpArgs false

/-! ### spec_taLeft: function 73, by hand -/
-- IMPORT Derived.Test.YtlkbphhmahipdaaTk
-- IMPORT Derived.Deep.RegionHeld3
-- IMPORT Derived.Test.YtlkbphhmahipdaaTs
set_option maxHeartbeats 4000000 in
set_option maxRecDepth 100000 in
theorem spec_taLeft.has (n : Nat) (hn : n ≤ 40) (talk : ByteArray) (m : Nat) (hm : m ≤ 1000) (hsz : talk.size = 2 * m) (sp : Nat → Bool) (wt : Nat → Int) (ht : ∀ j, j < m → talk.extract (2 * j) (2 * j + 1) = Tk.wh (sp j) ∧ bt talk (2 * (j : Int) + 1) = wt j) (hwt : ∀ j, j < m → wt j = 45 ∨ wt j = 43 ∨ wt j = 33) (w : World) :
    Calls Try.prog 73 #[.int .i64 (n : Int), .string talk] w fun e w' => ∃ v : Value, e = .returned v ∧ ∃ ps : List Tk.PP, Tk.Has 36 3 w' w.heap.size w.heap.size v ps ∧ Tk.vals ps = impl_left.rest n sp wt m ∧ Tk.Ok ps ∧ Below w.heap.size w w' := by
  have hall := spec_taPairs.has n hn w
  have HA := Aside0.mk hall
  have HT := Aside0.mk ht
  have HWT := Aside0.mk hwt
  have HZ := Aside0.mk hsz
  have hszz : (talk.size : Int) = 2 * (m : Int) := by omega
  have HSZ := Aside0.mk hszz
  have hsb : (talk.size : Int) ≤ 2000 := by omega
  clear hall ht hsz hszz hwt
  go_enter Try.func73, Try.ntmps73
  go_wp2_with (go_at_call 94; refine HA.out.mono ?_; rintro e w2 ⟨v, rfl, h⟩; have H := Aside0.mk h; clear h HA)
  go_loopg [5, 6] m (fun gg s5 s6 wr => ∃ (j : Nat) (i : Int), s6 = .int .i64 i ∧ j ≤ m ∧ m - j ≤ gg ∧ Aside0 (i = 2 * (j : Int)) ∧ Aside0 (∃ (b : Nat) (ps : List Tk.PP), w.heap.size ≤ b ∧ Tk.Has 36 3 wr b w.heap.size s5 ps ∧ Tk.vals ps = impl_left.rest n sp wt j ∧ Tk.Ok ps ∧ Below w.heap.size w wr))
  case atStart =>
    refine ⟨0, 0, rfl, Nat.zero_le _, by omega, ⟨rfl⟩, ⟨?_⟩⟩
    obtain ⟨ps, h1, h2, h3⟩ := H.out
    exact ⟨_, ps, Nat.le_refl _, h1, h2, impl_left.ok_all _ n hn ps h2, h3⟩
  case round =>
    obtain ⟨j, i, rfl, hj, hgg, HI, HS⟩ := hrel
    clear H
    by_cases hjm : j < m
    · have hlt : i < (talk.size : Int) := by have := HI.out; have := HSZ.out; omega
      have hi0 : 0 ≤ i := by have := HI.out; have := HSZ.out; omega
      have hi2 : i + 1 < (talk.size : Int) := by have := HI.out; have := HSZ.out; omega
      obtain ⟨i1, hi1⟩ : ∃ i1, i1 = i + 1 := ⟨_, rfl⟩
      have hw1 : IntKind.i64.wrap (i + 1) = i1 := by rw [hi1]; exact IntWalk.i64_in _ (by omega)
      have hle : i ≤ i1 := by omega
      have hi3 : i1 ≤ (talk.size : Int) := by omega
      have hi4 : 0 ≤ i1 := by omega
      have hi5 : i1 < (talk.size : Int) := by omega
      have hx12 := bt_at talk i1
      obtain ⟨b, ps, hb0, hH, hv, hok, hbel⟩ := HS.out
      obtain ⟨e1, e2⟩ := HT.out j hjm
      have ex : talk.extract i.toNat i1.toNat = Tk.wh (sp j) := by
        have h1 : i.toNat = 2 * j := by have := HI.out; have := HSZ.out; omega
        have h2 : i1.toNat = 2 * j + 1 := by have := HI.out; have := HSZ.out; omega
        rw [h1, h2, e1]
      have eb : bt talk i1 = wt j := by rw [hi1, HI.out]; exact e2
      have hbh := fun q => spec_taSay.has (sp j) (wt j) (HWT.out j hjm) b w.heap.size u5 ps (wr.drewN q) (hH.below (pw_below_drewN (Below.refl _ _) q)) hok
      have HBH := Aside0.mk (show ∀ q, Calls Try.prog 77 #[u5, .string (Tk.wh (sp j)), .int .u8 (wt j)] (wr.drewN q) fun e w' => ∃ v', e = .returned v' ∧ Aside0 (∃ (b : Nat) (ps : List Tk.PP), w.heap.size ≤ b ∧ Tk.Has 36 3 w' b w.heap.size v' ps ∧ Tk.vals ps = impl_left.rest n sp wt (j + 1) ∧ Tk.Ok ps ∧ Below w.heap.size w w') from fun q => (hbh q).mono fun e w' he => by
        obtain ⟨v', rfl, h1, h2⟩ := he
        exact ⟨v', rfl, ⟨(wr.drewN q).heap.size, _, hbel.size, h1, by rw [impl_behind.sel_vals, hv]; rfl, impl_behind.sel_ok _ _ _ hok, below_step (below_step hbel (pw_below_drewN (Below.refl _ _) q)) h2⟩⟩)
      have HI1 := Aside0.mk hi1
      clear hbh hH hv hok hbel e1 e2 hb0 hi2 hi1
      rw [ex.symm, eb.symm] at HBH
      clear ex eb
      go_wp2
      go_region_held3 (fun _ => True) (trivial) (first | (go_at_call 77; refine (HBH.out _).mono ?_; rintro e w7 ⟨v7, rfl, H7⟩))
      go_simp
      go_wp2
      go_roundg (m - (j + 1))
      case measure => omega
      case rel => exact ⟨j + 1, i + 2, by go_num, by omega, by omega, ⟨by have := HI.out; omega⟩, H7⟩
    · have hlt : ¬ i < (talk.size : Int) := by have := HI.out; have := HSZ.out; omega
      obtain rfl : j = m := by omega
      go_wp2
      go_ret
      obtain ⟨b, ps, h1, h2, h3⟩ := HS.out
      exact ⟨_, rfl, ps, h2.lower h1 (Nat.le_refl _), h3⟩
def spec_taLeft.f (n : Int) (talk : ByteArray) : Option (List (List Int)) := if (0 ≤ n ∧ n ≤ 40) ∧ impl_isTalk.ok talk = true then some (impl_isTrue.lft n talk) else none
theorem spec_taLeft.calls (n : Int) (talk : ByteArray) (r : List (List Int)) (w : World) (h : spec_taLeft.f n talk = some r) :
    Calls Try.prog 73 #[.int .i64 n, .string talk] w fun e w' => ∃ v0_ : Value, e = .returned v0_ ∧ Kd.S (Kd.slice 3 (Kd.int .i64)) 36 w' w.heap.size (fun _ => True) v0_ r ∧ Below w.heap.size w w' := by
  have hc : (0 ≤ n ∧ n ≤ 40) ∧ impl_isTalk.ok talk = true := by
    unfold spec_taLeft.f at h
    split at h
    · assumption
    · cases h
  unfold spec_taLeft.f at h
  rw [if_pos hc] at h
  obtain rfl := Option.some.inj h
  obtain ⟨h1, h2, h3, h4⟩ := impl_isTrue.parts talk hc.2
  obtain ⟨m, rfl⟩ := Int.eq_ofNat_of_zero_le hc.1.1
  exact (spec_taLeft.has m (by omega) talk (talk.size / 2) (by omega) h1 _ _ h3 h4 w).mono fun e w' he => by
    obtain ⟨v, rfl, ps, h1, h2, h3, h4⟩ := he
    have hS := h1.S (Nat.le_refl _) (Nat.le_refl _)
    rw [h2] at hS
    exact ⟨v, rfl, hS, h4⟩

end Go.Proofs.Ytlkbphhmahipdaa.P
namespace Go.Proofs.Ytlkbphhmahipdaa.P
open Go.RowKit Go.Proofs.YtlkbphhmahipdaaW.PrintWords Go.Proofs.YtlkbphhmahipdaaW.PrintLast Go.Proofs.YtlkbphhmahipdaaW.PrintMore
attribute [local go_sem] max2_int min2_int max_two min_two max_three min_three max_four min_four   -- for this text's walks alone
set_option linter.unusedVariables false
set_option linter.unusedSimpArgs false

/-! ### impl_PairsLeft: function 14, by hand -/
-- IMPORT Derived.Test.YtlkbphhmahipdaaTk
-- IMPORT Derived.Test.YtlkbphhmahipdaaTs
/-- Are there a limit and a talk? -/
def impl_PairsLeft.ok (n : Int) (talk : ByteArray) : Bool := decide (2 ≤ n ∧ n ≤ 40) && impl_isTalk.ok talk
/-- The pairs that are left. -/
def impl_PairsLeft.rows (n : Int) (talk : ByteArray) : List (List Int) := if impl_PairsLeft.ok n talk = true then impl_isTrue.lft n talk else []
theorem impl_isMost.told (n : Int) : impl_isMost.f n = some (decide (2 ≤ n ∧ n ≤ 40)) := by
  unfold impl_isMost.f
  have h : impl_between.f n 2 40 = some (decide (2 ≤ n ∧ n ≤ 40)) := by
    unfold impl_between.f
    by_cases h1 : (2 : Int) ≤ n <;> by_cases h2 : n ≤ 40 <;> simp [h1, h2] <;> omega
  simp only [h, Option.bind_some]
set_option maxHeartbeats 4000000 in
set_option maxRecDepth 100000 in
theorem impl_PairsLeft.has (n : Int) (talk : ByteArray) (hs : talk.size ≤ 1048576) (w : World) :
    Calls Try.prog 14 #[.int .i64 n, .string talk] w fun e w' => ∃ v : Value, e = .returned (.tuple #[v, .bool (impl_PairsLeft.ok n talk)]) ∧ ∃ ps : List Tk.PP, Tk.Has 36 3 w' w.heap.size w.heap.size v ps ∧ Tk.vals ps = impl_PairsLeft.rows n talk ∧ Tk.Ok ps ∧ Below w.heap.size w w' := by
  have TM : Aside0 (∀ W, Calls Try.prog 74 #[.int .i64 n] W fun e w' => e = .returned (.bool (decide (2 ≤ n ∧ n ≤ 40))) ∧ Aside0 (Below W.heap.size W w')) := ⟨fun W => (impl_isMost.calls n _ W (impl_isMost.told n)).mono fun e w' h => ⟨h.1, ⟨h.2.below⟩⟩⟩
  have TT : Aside0 (∀ W, Calls Try.prog 75 #[.string talk] W fun e w' => e = .returned (.bool (impl_isTalk.ok talk)) ∧ Aside0 (Below W.heap.size W w')) := ⟨fun W => (impl_isTalk.calls talk _ W (by unfold impl_isTalk.f; rw [if_pos hs])).mono fun e w' h => ⟨h.1, ⟨h.2⟩⟩⟩
  unfold impl_PairsLeft.rows
  cases hm : decide (2 ≤ n ∧ n ≤ 40) with
  | false =>
    have e1 : impl_PairsLeft.ok n talk = false := by simp only [impl_PairsLeft.ok, hm, Bool.false_and]
    rw [hm] at TM
    rw [e1]
    clear e1 hm hs TT
    go_enter Try.func14, Try.ntmps14
    go_wp2_with (go_at_call 74; refine (TM.out _).mono ?_; rintro e w2 ⟨rfl, h2⟩)
    go_ret2
    exact ⟨_, rfl, [], Tk.Has.nil _ _ _, rfl, ⟨by simp, fun p hp => by cases hp⟩, h2.out⟩
  | true =>
    have hn := of_decide_eq_true hm
    cases ht : impl_isTalk.ok talk with
    | false =>
      have e1 : impl_PairsLeft.ok n talk = false := by simp only [impl_PairsLeft.ok, ht, Bool.and_false]
      rw [hm] at TM
      rw [ht] at TT
      rw [e1]
      clear e1 hm ht hs hn
      go_enter Try.func14, Try.ntmps14
      go_wp2_with (first
        | (go_at_call 74; refine (TM.out _).mono ?_; rintro e w2 ⟨rfl, h2⟩)
        | (go_at_call 75; refine (TT.out _).mono ?_; rintro e w3 ⟨rfl, h3⟩))
      go_ret2
      exact ⟨_, rfl, [], Tk.Has.nil _ _ _, rfl, ⟨by simp, fun p hp => by cases hp⟩, below_step h2.out h3.out⟩
    | true =>
      have e1 : impl_PairsLeft.ok n talk = true := by simp only [impl_PairsLeft.ok, ht, hm, Bool.and_true]
      obtain ⟨h1, h2, h3, _⟩ := impl_isTrue.parts talk ht
      obtain ⟨m, rfl⟩ := Int.eq_ofNat_of_zero_le (show 0 ≤ n by omega)
      have TL := Aside0.mk (fun W => impl_left.has m (by omega) talk (talk.size / 2) (by omega) h1 _ _ h3 W)
      rw [hm] at TM
      rw [ht] at TT
      rw [e1]
      clear e1 hm ht hs hn h1 h2 h3
      go_enter Try.func14, Try.ntmps14
      go_wp2_with (first
        | (go_at_call 74; refine (TM.out _).mono ?_; rintro e w2 ⟨rfl, h2⟩)
        | (go_at_call 75; refine (TT.out _).mono ?_; rintro e w3 ⟨rfl, h3⟩; have B3 := Aside0.mk (below_step h2.out h3.out); clear h2 h3)
        | (go_at_call 76; refine (TL.out _).mono ?_; rintro e w4 ⟨v, rfl, h⟩; have H := Aside0.mk h; clear h))
      go_ret2
      obtain ⟨ps, h4, h5, h6, h7⟩ := H.out
      exact ⟨_, rfl, ps, h4.lower B3.out.size B3.out.size, h5, h6, below_step B3.out h7⟩
def impl_PairsLeft.f (n : Int) (talk : ByteArray) : Option (List (List Int) × Bool) := if talk.size ≤ 1048576 then some (impl_PairsLeft.rows n talk, impl_PairsLeft.ok n talk) else none
theorem impl_PairsLeft.calls (n : Int) (talk : ByteArray) (r1 : List (List Int)) (r2 : Bool) (w : World) (h : impl_PairsLeft.f n talk = some (r1, r2)) :
    Calls Try.prog 14 #[.int .i64 n, .string talk] w fun e w' => ∃ v0_ : Value, e = .returned (.tuple #[v0_, .bool r2]) ∧ Kd.S (Kd.slice 3 (Kd.int .i64)) 36 w' w.heap.size (fun _ => True) v0_ r1 ∧ Below w.heap.size w w' := by
  have hc : talk.size ≤ 1048576 := by
    unfold impl_PairsLeft.f at h
    split at h
    · assumption
    · cases h
  unfold impl_PairsLeft.f at h
  rw [if_pos hc] at h
  obtain ⟨rfl, rfl⟩ := Prod.mk.inj (Option.some.inj h)
  exact (impl_PairsLeft.has n talk hc w).mono fun e w' he => by
    obtain ⟨v, rfl, ps, h1, h2, h3, h4⟩ := he
    have hS := h1.S (Nat.le_refl _) (Nat.le_refl _)
    rw [h2] at hS
    exact ⟨v, rfl, hS, h4⟩

end Go.Proofs.Ytlkbphhmahipdaa.P
namespace Go.Proofs.Ytlkbphhmahipdaa.P
open Go.RowKit Go.Proofs.YtlkbphhmahipdaaW.PrintWords Go.Proofs.YtlkbphhmahipdaaW.PrintLast Go.Proofs.YtlkbphhmahipdaaW.PrintMore
attribute [local go_sem] max2_int min2_int max_two min_two max_three min_three max_four min_four   -- for this text's walks alone
set_option linter.unusedVariables false
set_option linter.unusedSimpArgs false

/-! ### spec_PairsLeft: function 13, by hand -/
-- IMPORT Derived.Test.YtlkbphhmahipdaaTk
-- IMPORT Derived.Test.YtlkbphhmahipdaaTs
theorem spec_taBoth.told (n : Int) (talk : ByteArray) (k : Nat) (h : spec_taTalk.f k talk = some (impl_isTalk.ok talk)) : spec_taBoth.f k n talk = some (impl_PairsLeft.ok n talk) := by
  have h2 : spec_taLimit.f n = some (decide (2 ≤ n ∧ n ≤ 40)) := by
    unfold spec_taLimit.f spec_l1In.f
    by_cases h1 : (2 : Int) ≤ n <;> by_cases h2 : n ≤ 40 <;> simp [h1, h2] <;> omega
  unfold spec_taBoth.f
  rw [h2]
  simp only [Option.bind_some]
  unfold impl_PairsLeft.ok
  cases hm : decide (2 ≤ n ∧ n ≤ 40) with
  | false => simp [hm]
  | true => simp [hm, h]
set_option maxHeartbeats 4000000 in
set_option maxRecDepth 100000 in
theorem spec_PairsLeft.has (n : Int) (talk : ByteArray) (k : Nat) (hk : spec_taTalk.f k talk = some (impl_isTalk.ok talk)) (w : World) :
    Calls Try.prog 13 #[.int .i64 n, .string talk] w fun e w' => ∃ v : Value, e = .returned (.tuple #[v, .bool (impl_PairsLeft.ok n talk)]) ∧ ∃ ps : List Tk.PP, Tk.Has 36 3 w' w.heap.size w.heap.size v ps ∧ Tk.vals ps = impl_PairsLeft.rows n talk ∧ Tk.Ok ps ∧ Below w.heap.size w w' := by
  have TB : Aside0 (∀ W, Calls Try.prog 72 #[.int .i64 n, .string talk] W fun e w' => e = .returned (.bool (impl_PairsLeft.ok n talk)) ∧ Aside0 (Below W.heap.size W w')) := ⟨fun W => (spec_taBoth.calls k n talk _ W (spec_taBoth.told n talk k hk)).mono fun e w' h => ⟨h.1, ⟨h.2.below⟩⟩⟩
  clear hk
  unfold impl_PairsLeft.rows
  cases hm : impl_PairsLeft.ok n talk with
  | false =>
    rw [hm] at TB
    clear hm
    go_enter Try.func13, Try.ntmps13
    go_wp2_with (go_at_call 72; refine (TB.out _).mono ?_; rintro e w2 ⟨rfl, h2⟩)
    go_ret2
    exact ⟨_, rfl, [], Tk.Has.nil _ _ _, rfl, ⟨by simp, fun p hp => by cases hp⟩, h2.out⟩
  | true =>
    have hc : (2 ≤ n ∧ n ≤ 40) ∧ impl_isTalk.ok talk = true := by simpa [impl_PairsLeft.ok] using hm
    obtain ⟨h1, h2, h3, h4⟩ := impl_isTrue.parts talk hc.2
    obtain ⟨m, rfl⟩ := Int.eq_ofNat_of_zero_le (show 0 ≤ n by omega)
    have TL := Aside0.mk (fun W => spec_taLeft.has m (by omega) talk (talk.size / 2) (by omega) h1 _ _ h3 h4 W)
    rw [hm] at TB
    clear hm hc h1 h2 h3 h4
    go_enter Try.func13, Try.ntmps13
    go_wp2_with (first
      | (go_at_call 72; refine (TB.out _).mono ?_; rintro e w2 ⟨rfl, h2⟩)
      | (go_at_call 73; refine (TL.out _).mono ?_; rintro e w4 ⟨v, rfl, h⟩; have H := Aside0.mk h; clear h))
    go_ret2
    obtain ⟨ps, h4, h5, h6, h7⟩ := H.out
    exact ⟨_, rfl, ps, h4.lower h2.out.size h2.out.size, h5, h6, below_step h2.out h7⟩
def spec_PairsLeft.f (k : Nat) (n : Int) (talk : ByteArray) : Option (List (List Int) × Bool) := if spec_taTalk.f k talk = some (impl_isTalk.ok talk) then some (impl_PairsLeft.rows n talk, impl_PairsLeft.ok n talk) else none
theorem spec_PairsLeft.mono (n : Int) (talk : ByteArray) (k : Nat) : LeO (spec_PairsLeft.f k n talk) (spec_PairsLeft.f (k + 1) n talk) := by
  intro r h
  unfold spec_PairsLeft.f at h ⊢
  by_cases hk : spec_taTalk.f k talk = some (impl_isTalk.ok talk)
  · rw [if_pos (spec_taTalk.mono talk k _ hk)]
    rw [if_pos hk] at h
    exact h
  · rw [if_neg hk] at h
    cases h
theorem spec_PairsLeft.calls (k : Nat) (n : Int) (talk : ByteArray) (r1 : List (List Int)) (r2 : Bool) (w : World) (h : spec_PairsLeft.f k n talk = some (r1, r2)) :
    Calls Try.prog 13 #[.int .i64 n, .string talk] w fun e w' => ∃ v0_ : Value, e = .returned (.tuple #[v0_, .bool r2]) ∧ Kd.S (Kd.slice 3 (Kd.int .i64)) 36 w' w.heap.size (fun _ => True) v0_ r1 ∧ Below w.heap.size w w' := by
  have hk : spec_taTalk.f k talk = some (impl_isTalk.ok talk) := by
    unfold spec_PairsLeft.f at h
    split at h
    · assumption
    · cases h
  unfold spec_PairsLeft.f at h
  rw [if_pos hk] at h
  obtain ⟨rfl, rfl⟩ := Prod.mk.inj (Option.some.inj h)
  exact (spec_PairsLeft.has n talk k hk w).mono fun e w' he => by
    obtain ⟨v, rfl, ps, h1, h2, h3, h4⟩ := he
    have hS := h1.S (Nat.le_refl _) (Nat.le_refl _)
    rw [h2] at hS
    exact ⟨v, rfl, hS, h4⟩

end Go.Proofs.Ytlkbphhmahipdaa.P
namespace Go.Proofs.Ytlkbphhmahipdaa.P
open Go.RowKit Go.Proofs.YtlkbphhmahipdaaW.PrintWords Go.Proofs.YtlkbphhmahipdaaW.PrintLast Go.Proofs.YtlkbphhmahipdaaW.PrintMore
attribute [local go_sem] max2_int min2_int max_two min_two max_three min_three max_four min_four   -- for this text's walks alone
set_option linter.unusedVariables false
set_option linter.unusedSimpArgs false

/-! ### spec_NextStatements: function 18, by hand -/
-- IMPORT Derived.Test.YtlkbphhmahipdaaNx
-- IMPORT Derived.Deep.RegionHeld3
set_option maxHeartbeats 4000000 in
set_option maxRecDepth 100000 in
theorem spec_NextStatements.has (n : Int) (talk : ByteArray) (k : Nat) (hk : spec_taTalk.f k talk = some (impl_isTalk.ok talk)) (w : World) :
    Calls Try.prog 18 #[.int .i64 n, .string talk] w fun e w' => ∃ v : Value, e = .returned (.tuple #[v, .bool (impl_PairsLeft.ok n talk)]) ∧ Kd.R Kd.string 9 w' w.heap.size (fun _ => True) v (if impl_PairsLeft.ok n talk = true then Nx.next (impl_PairsLeft.rows n talk) 6 else []) ∧ Below w.heap.size w w' := by
  have TB0 : Aside0 (∀ W, Calls Try.prog 72 #[.int .i64 n, .string talk] W fun e w' => e = .returned (.bool (impl_PairsLeft.ok n talk)) ∧ Aside0 (Below W.heap.size W w')) := ⟨fun W => (spec_taBoth.calls k n talk _ W (spec_taBoth.told n talk k hk)).mono fun e w' h => ⟨h.1, ⟨h.2.below⟩⟩⟩
  clear hk
  cases hok : impl_PairsLeft.ok n talk with
  | false =>
    rw [hok] at TB0
    rw [if_neg (show ¬ (false = true) by decide)]
    clear hok
    go_enter Try.func18, Try.ntmps18
    go_wp2_with (go_at_call 72; refine (TB0.out _).mono ?_; rintro e w2 ⟨rfl, h2⟩)
    go_ret2
    exact ⟨_, rfl, Kd.R_nil _ _ _ _ _, h2.out⟩
  | true =>
    have hc : (2 ≤ n ∧ n ≤ 40) ∧ impl_isTalk.ok talk = true := by simpa [impl_PairsLeft.ok] using hok
    obtain ⟨h1, h2, h3, h4⟩ := impl_isTrue.parts talk hc.2
    have e0 : impl_PairsLeft.rows n talk = impl_isTrue.lft n talk := by unfold impl_PairsLeft.rows; rw [if_pos hok]
    have TL : Aside0 (∀ W, Calls Try.prog 73 #[.int .i64 n, .string talk] W fun e w' => ∃ (A : Option Addr) (c : Nat) (ps : List Tk.PP), e = .returned (.slice A ps.length c) ∧ Aside0 (Tk.Has 36 3 w' W.heap.size W.heap.size (.slice A ps.length c) ps ∧ Tk.vals ps = impl_PairsLeft.rows n talk ∧ Tk.Ok ps ∧ Below W.heap.size W w')) := ⟨fun W => by
      obtain ⟨m, rfl⟩ := Int.eq_ofNat_of_zero_le (show 0 ≤ n by omega)
      exact (spec_taLeft.has m (by omega) talk (talk.size / 2) (by omega) h1 _ _ h3 h4 W).mono fun e w' he => by
        obtain ⟨v, rfl, ps, h1, h2, h3, h4⟩ := he
        obtain ⟨A, c, rfl, _⟩ := h1.slice
        exact ⟨A, c, ps, rfl, ⟨h1, by rw [e0]; exact h2, h3, h4⟩⟩⟩
    rw [hok] at TB0
    rw [if_pos rfl]
    clear hok hc h1 h2 h3 h4 e0
    have TB := Aside0.mk (fun (k : Nat) base lo u ps W (h1 : Tk.Has 36 3 W base lo u ps) (h2 : Tk.Ok ps) => spec_taSay.has (Nx.sp k) (Nx.wt k) (Nx.wt_in k) base lo u ps W h1 h2)
    generalize impl_PairsLeft.rows n talk = rows at TL ⊢
    go_enter Try.func18, Try.ntmps18
    go_wp2_with (first
      | (go_at_call 72; refine (TB0.out _).mono ?_; rintro e w1 ⟨rfl, h1⟩; clear TB0)
      | (go_at_call 73; refine (TL.out _).mono ?_; rintro e w2 ⟨A, c, ps, rfl, h2_⟩; have h2 := Aside0.mk (show _ ∧ _ ∧ _ ∧ Below w.heap.size w w2 from ⟨h2_.out.1, h2_.out.2.1, h2_.out.2.2.1, below_step h1.out h2_.out.2.2.2⟩); clear TL h2_ h1))
    go_loopg [7, 19] 6 (fun gg s7 s19 wr => ∃ k : Nat, s19 = .int .i64 (k : Int) ∧ k ≤ 6 ∧ 6 - k ≤ gg ∧ Aside0 (Kd.R Kd.string 9 wr w2.heap.size (fun k => k ≠ w2.heap.size) s7 (Nx.next rows k) ∧ Below w2.heap.size w2 wr ∧ ∀ j, j < 6 → wr.cell? ⟨w2.heap.size, j, none⟩ = some (.string (Nx.stm j))))
    case atStart => exact ⟨0, rfl, by omega, by omega, ⟨Kd.R_nil _ _ _ _ _, below_alloc (Below.refl _ _) _, fun j hj => Nx.six_cells _ _ j hj⟩⟩
    case round =>
      obtain ⟨k, rfl, hk, hgg, HS⟩ := hrel
      by_cases hk6 : k < 6
      · have hkz : (k : Int) < 6 := by omega
        have hcell := HS.out.2.2 k hk6
        have HBH : Aside0 (∀ q, Calls Try.prog 77 #[.slice A ps.length c, .string (Tk.wh (Nx.sp k)), .int .u8 (Nx.wt k)] (wr.drewN q) fun e w' => ∃ A' c', e = .returned (.slice A' (Tk.say (Nx.sp k) (Nx.wt k) rows).length c') ∧ Aside0 (Below wr.heap.size wr w')) := ⟨fun q => (TB.out k _ _ _ _ (wr.drewN q) ((h2.out.1.below HS.out.2.1).below (pw_below_drewN (Below.refl _ _) q)) h2.out.2.2.1).mono fun e w' he => by
          obtain ⟨v', rfl, h5, h6⟩ := he
          obtain ⟨A', c', e5, _⟩ := h5.slice
          have hl : (impl_behind.sel (Nx.sp k) (Nx.wt k) ps).length = (Tk.say (Nx.sp k) (Nx.wt k) rows).length := by
            rw [← Tk.vals_len, impl_behind.sel_vals, h2.out.2.1]
          rw [hl] at e5
          exact ⟨A', c', by rw [e5], ⟨below_step (pw_below_drewN (Below.refl _ _) q) h6⟩⟩⟩
        obtain ⟨p1, p2, p3⟩ := Nx.parts k hk6
        have hlen := Nx.next_len rows k
        have HY := Aside0.mk (Nx.next_yes rows k)
        have HN := Aside0.mk (Nx.next_no rows k)
        generalize hL : (Tk.say (Nx.sp k) (Nx.wt k) rows).length = L at HBH HY HN
        rw [← p2, ← p3] at HBH
        generalize hst : Nx.stm k = st at hcell HBH HY p1
        have hsz : (st.size : Int) = 2 := by omega
        have hx1 : ∀ h : 1 < st.size, ((st[1]'h).toNat : Int) = bt st 1 := fun h => bt_at st 1 h
        have hx2 := bt_at st 1
        clear p1 p2 p3 hL hst
        by_cases hL0 : 0 < L
        · have hLz : (0 : Int) < (L : Int) := by omega
          have HL := Aside0.mk (HY.out hL0)
          clear HY HN hL0
          go_wp2
          go_region_held3 (fun _ => True) (trivial) (first | (go_at_call 77; refine (HBH.out _).mono ?_; rintro e w7 ⟨A7, c7, rfl, H7⟩))
          go_simp
          have H8 := Aside0.mk (show Kd.R Kd.string 9 w7 w2.heap.size (fun k => k ≠ w2.heap.size) u7 (Nx.next rows k) ∧ Below w2.heap.size w2 w7 ∧ (∀ j, j < 6 → w7.cell? ⟨w2.heap.size, j, none⟩ = some (.string (Nx.stm j))) from ⟨Kd.R_below HS.out.1 H7.out, below_step HS.out.2.1 H7.out, fun j hj => pw_cell_below H7.out (HS.out.2.2 j hj)⟩)
          generalize Nx.next rows k = xs at H8 HL hlen
          clear HS H7 hcell
          go_wp2_with (first
            | ((with_reducible refine gate_builtin (b := .append) (xs := #[.tmp 31, .tmp 33]) rfl ?_); at_builtin; refine Kd.R_append Kd.string (w0 := w2) w2.heap.size rfl (.tmp 31) (.tmp 33) 31 9 (.string ⟨#[]⟩) 16 rfl Try.underlying31 (by kernel_rfl) rfl (by decide) (by omega) u7 xs st [.string st] (fun k => k ≠ w2.heap.size) (fun _ => False) rfl (by first | (go_simp; done) | (go_simp; rfl)) rfl (fun _ hk => hk.elim) (fun k hk => by have := World.block_lt_of_cell? _ _ (H8.out.2.2 0 (by omega)); dsimp only at this; omega) H8.out.1 H8.out.2.1 H8.out.2.1.size (by omega) ?_; intro v9 w9 ho hb hg hat; have HO9 := Aside0.mk (show _ ∧ _ ∧ _ from ⟨ho, hb, hg⟩); clear ho hb hg hat))
          go_roundg (6 - (k + 1))
          case measure => omega
          case rel => exact ⟨k + 1, by go_num, by omega, by omega, ⟨by rw [HL.out]; exact HO9.out.1, HO9.out.2.1, fun j hj => Nx.cell_grown HO9.out.2.2 (H8.out.2.2 j hj) (fun e => H8.out.1.1 _ e.symm rfl)⟩⟩
        · have hLz : ¬ (0 : Int) < (L : Int) := by omega
          have HL := Aside0.mk (HN.out hL0)
          clear HY HN hL0
          go_wp2
          go_region_held3 (fun _ => True) (trivial) (first | (go_at_call 77; refine (HBH.out _).mono ?_; rintro e w7 ⟨A7, c7, rfl, H7⟩))
          go_simp
          go_wp2
          go_roundg (6 - (k + 1))
          case measure => omega
          case rel => exact ⟨k + 1, by go_num, by omega, by omega, ⟨by rw [HL.out]; exact Kd.R_below HS.out.1 H7.out, below_step HS.out.2.1 H7.out, fun j hj => pw_cell_below H7.out (HS.out.2.2 j hj)⟩⟩
      · obtain rfl : k = 6 := by omega
        go_wp2
        go_ret2
        exact ⟨_, rfl, Kd.R_mono (Kd.R_lower HS.out.1 h2.out.2.2.2.size) (fun _ _ => trivial), below_step h2.out.2.2.2 HS.out.2.1⟩
def spec_NextStatements.f (k : Nat) (n : Int) (talk : ByteArray) : Option (List ByteArray × Bool) := if spec_taTalk.f k talk = some (impl_isTalk.ok talk) then some ((if impl_PairsLeft.ok n talk = true then Nx.next (impl_PairsLeft.rows n talk) 6 else []), impl_PairsLeft.ok n talk) else none
theorem spec_NextStatements.mono (n : Int) (talk : ByteArray) (k : Nat) : LeO (spec_NextStatements.f k n talk) (spec_NextStatements.f (k + 1) n talk) := by
  intro r h
  unfold spec_NextStatements.f at h ⊢
  by_cases hk : spec_taTalk.f k talk = some (impl_isTalk.ok talk)
  · rw [if_pos (spec_taTalk.mono talk k _ hk)]
    rw [if_pos hk] at h
    exact h
  · rw [if_neg hk] at h
    cases h
theorem spec_NextStatements.calls (k : Nat) (n : Int) (talk : ByteArray) (r1 : List ByteArray) (r2 : Bool) (w : World) (h : spec_NextStatements.f k n talk = some (r1, r2)) :
    Calls Try.prog 18 #[.int .i64 n, .string talk] w fun e w' => ∃ v0_ : Value, e = .returned (.tuple #[v0_, .bool r2]) ∧ Kd.R Kd.string 9 w' w.heap.size (fun _ => True) v0_ r1 ∧ Below w.heap.size w w' := by
  have hk : spec_taTalk.f k talk = some (impl_isTalk.ok talk) := by
    unfold spec_NextStatements.f at h
    split at h
    · assumption
    · cases h
  unfold spec_NextStatements.f at h
  rw [if_pos hk] at h
  obtain ⟨rfl, rfl⟩ := Prod.mk.inj (Option.some.inj h)
  exact spec_NextStatements.has n talk k hk w

end Go.Proofs.Ytlkbphhmahipdaa.P
namespace Go.Proofs.Ytlkbphhmahipdaa.P
open Go.RowKit Go.Proofs.YtlkbphhmahipdaaW.PrintWords Go.Proofs.YtlkbphhmahipdaaW.PrintLast Go.Proofs.YtlkbphhmahipdaaW.PrintMore
attribute [local go_sem] max2_int min2_int max_two min_two max_three min_three max_four min_four   -- for this text's walks alone
set_option linter.unusedVariables false
set_option linter.unusedSimpArgs false

/-! ### impl_NextStatements: function 19, by hand -/
-- IMPORT Derived.Test.YtlkbphhmahipdaaNx
-- IMPORT Derived.Deep.RegionHeld3
set_option maxHeartbeats 4000000 in
set_option maxRecDepth 100000 in
theorem impl_NextStatements.has (n : Int) (talk : ByteArray) (hs : talk.size ≤ 1048576) (w : World) :
    Calls Try.prog 19 #[.int .i64 n, .string talk] w fun e w' => ∃ v : Value, e = .returned (.tuple #[v, .bool (impl_PairsLeft.ok n talk)]) ∧ Kd.R Kd.string 9 w' w.heap.size (fun _ => True) v (if impl_PairsLeft.ok n talk = true then Nx.next (impl_PairsLeft.rows n talk) 6 else []) ∧ Below w.heap.size w w' := by
  have TP : Aside0 (∀ W, Calls Try.prog 14 #[.int .i64 n, .string talk] W fun e w' => ∃ (A : Option Addr) (c : Nat) (ps : List Tk.PP), e = .returned (.tuple #[.slice A ps.length c, .bool (impl_PairsLeft.ok n talk)]) ∧ Aside0 (Tk.Has 36 3 w' W.heap.size W.heap.size (.slice A ps.length c) ps ∧ Tk.vals ps = impl_PairsLeft.rows n talk ∧ Tk.Ok ps ∧ Below W.heap.size W w')) := ⟨fun W => (impl_PairsLeft.has n talk hs W).mono fun e w' he => by
    obtain ⟨v, rfl, ps, h1, h2, h3, h4⟩ := he
    obtain ⟨A, c, rfl, _⟩ := h1.slice
    exact ⟨A, c, ps, rfl, ⟨h1, h2, h3, h4⟩⟩⟩
  clear hs
  cases hok : impl_PairsLeft.ok n talk with
  | false =>
    rw [hok] at TP
    rw [if_neg (show ¬ (false = true) by decide)]
    clear hok
    go_enter Try.func19, Try.ntmps19
    go_wp2_with (go_at_call 14; refine (TP.out _).mono ?_; rintro e w2 ⟨A, c, ps, rfl, h2⟩)
    go_ret2
    exact ⟨_, rfl, Kd.R_nil _ _ _ _ _, h2.out.2.2.2⟩
  | true =>
    rw [hok] at TP
    rw [if_pos rfl]
    clear hok
    have TB := Aside0.mk (fun (k : Nat) base lo u ps W (h1 : Tk.Has 36 3 W base lo u ps) (h2 : Tk.Ok ps) => impl_behind.all (Nx.sp k) (Nx.wt k) base lo u ps W h1 h2)
    generalize impl_PairsLeft.rows n talk = rows at TP ⊢
    go_enter Try.func19, Try.ntmps19
    go_wp2_with (first
      | (go_at_call 14; refine (TP.out _).mono ?_; rintro e w2 ⟨A, c, ps, rfl, h2⟩; clear TP)
      | ((with_reducible refine gate_dst (N := 19) rfl ?_); refine Kd.R_lit Kd.string w2.heap.size 9 ?hg (N := 19) ?hd (w0 := w2) (xs := ([] : List ByteArray)) (inner := []) (ok := fun _ => True) (okp := fun _ => True) ?hr ?hp (fun _ hk => hk) trivial (Below.refl _ _) (Nat.le_refl _) (by simp) ?_; (case hd => rfl); (case hg => rfl); (case hr => first | (go_simp; done) | (go_simp; rfl)); (case hp => exact (Reps.none _ _)); intro v3 w3 ho hb hg_ hnew_; have H3 := Aside0.mk (show _ ∧ _ from ⟨ho, hb⟩); clear ho hb hg_ hnew_))
    go_loopg [8, 22] 6 (fun gg s8 s22 wr => ∃ k : Nat, s22 = .int .i64 (k : Int) ∧ k ≤ 6 ∧ 6 - k ≤ gg ∧ Aside0 (Kd.R Kd.string 9 wr w2.heap.size (fun k => k ≠ w3.heap.size) s8 (Nx.next rows k) ∧ Below w2.heap.size w2 wr ∧ ∀ j, j < 6 → wr.cell? ⟨w3.heap.size, j, none⟩ = some (.string (Nx.stm j))))
    case atStart => exact ⟨0, rfl, by omega, by omega, ⟨Kd.R_alloc (Kd.R_mono (Kd.R_bound H3.out.1) (fun k hk => by have := hk.2.2.1; omega)) _, below_alloc H3.out.2 _, fun j hj => Nx.six_cells _ _ j hj⟩⟩
    case round =>
      obtain ⟨k, rfl, hk, hgg, HS⟩ := hrel
      by_cases hk6 : k < 6
      · have hkz : (k : Int) < 6 := by omega
        have hcell := HS.out.2.2 k hk6
        have HBH : Aside0 (∀ q, Calls Try.prog 78 #[.slice A ps.length c, .string (Tk.wh (Nx.sp k)), .int .u8 (Nx.wt k)] (wr.drewN q) fun e w' => ∃ A' c', e = .returned (.slice A' (Tk.say (Nx.sp k) (Nx.wt k) rows).length c') ∧ Aside0 (Below wr.heap.size wr w')) := ⟨fun q => (TB.out k _ _ _ _ (wr.drewN q) ((h2.out.1.below HS.out.2.1).below (pw_below_drewN (Below.refl _ _) q)) h2.out.2.2.1).mono fun e w' he => by
          obtain ⟨v', rfl, h5, h6⟩ := he
          obtain ⟨A', c', e5, _⟩ := h5.slice
          have hl : (impl_behind.sel (Nx.sp k) (Nx.wt k) ps).length = (Tk.say (Nx.sp k) (Nx.wt k) rows).length := by
            rw [← Tk.vals_len, impl_behind.sel_vals, h2.out.2.1]
          rw [hl] at e5
          exact ⟨A', c', by rw [e5], ⟨below_step (pw_below_drewN (Below.refl _ _) q) h6⟩⟩⟩
        obtain ⟨p1, p2, p3⟩ := Nx.parts k hk6
        have hlen := Nx.next_len rows k
        have HY := Aside0.mk (Nx.next_yes rows k)
        have HN := Aside0.mk (Nx.next_no rows k)
        generalize hL : (Tk.say (Nx.sp k) (Nx.wt k) rows).length = L at HBH HY HN
        rw [← p2, ← p3] at HBH
        generalize hst : Nx.stm k = st at hcell HBH HY p1
        have hsz : (st.size : Int) = 2 := by omega
        have hx1 : ∀ h : 1 < st.size, ((st[1]'h).toNat : Int) = bt st 1 := fun h => bt_at st 1 h
        have hx2 := bt_at st 1
        clear p1 p2 p3 hL hst
        by_cases hL0 : 0 < L
        · have hLz : (0 : Int) < (L : Int) := by omega
          have HL := Aside0.mk (HY.out hL0)
          clear HY HN hL0
          go_wp2
          go_region_held3 (fun _ => True) (trivial) (first | (go_at_call 78; refine (HBH.out _).mono ?_; rintro e w7 ⟨A7, c7, rfl, H7⟩))
          go_simp
          have H8 := Aside0.mk (show Kd.R Kd.string 9 w7 w2.heap.size (fun k => k ≠ w3.heap.size) u8 (Nx.next rows k) ∧ Below w2.heap.size w2 w7 ∧ (∀ j, j < 6 → w7.cell? ⟨w3.heap.size, j, none⟩ = some (.string (Nx.stm j))) from ⟨Kd.R_below HS.out.1 H7.out, below_step HS.out.2.1 H7.out, fun j hj => pw_cell_below H7.out (HS.out.2.2 j hj)⟩)
          generalize Nx.next rows k = xs at H8 HL hlen
          clear HS H7 hcell
          go_wp2_with (first
            | ((with_reducible refine gate_builtin (b := .append) (xs := #[.tmp 34, .tmp 36]) rfl ?_); at_builtin; refine Kd.R_append Kd.string (w0 := w2) w2.heap.size rfl (.tmp 34) (.tmp 36) 31 9 (.string ⟨#[]⟩) 16 rfl Try.underlying31 (by kernel_rfl) rfl (by decide) (by omega) u8 xs st [.string st] (fun k => k ≠ w3.heap.size) (fun _ => False) rfl (by first | (go_simp; done) | (go_simp; rfl)) rfl (fun _ hk => hk.elim) (fun k hk => by have := World.block_lt_of_cell? _ _ (H8.out.2.2 0 (by omega)); dsimp only at this; omega) H8.out.1 H8.out.2.1 H8.out.2.1.size (by omega) ?_; intro v9 w9 ho hb hg hat; have HO9 := Aside0.mk (show _ ∧ _ ∧ _ from ⟨ho, hb, hg⟩); clear ho hb hg hat))
          go_roundg (6 - (k + 1))
          case measure => omega
          case rel => exact ⟨k + 1, by go_num, by omega, by omega, ⟨by rw [HL.out]; exact HO9.out.1, HO9.out.2.1, fun j hj => Nx.cell_grown HO9.out.2.2 (H8.out.2.2 j hj) (fun e => H8.out.1.1 _ e.symm rfl)⟩⟩
        · have hLz : ¬ (0 : Int) < (L : Int) := by omega
          have HL := Aside0.mk (HN.out hL0)
          clear HY HN hL0
          go_wp2
          go_region_held3 (fun _ => True) (trivial) (first | (go_at_call 78; refine (HBH.out _).mono ?_; rintro e w7 ⟨A7, c7, rfl, H7⟩))
          go_simp
          go_wp2
          go_roundg (6 - (k + 1))
          case measure => omega
          case rel => exact ⟨k + 1, by go_num, by omega, by omega, ⟨by rw [HL.out]; exact Kd.R_below HS.out.1 H7.out, below_step HS.out.2.1 H7.out, fun j hj => pw_cell_below H7.out (HS.out.2.2 j hj)⟩⟩
      · obtain rfl : k = 6 := by omega
        go_wp2
        go_ret2
        exact ⟨_, rfl, Kd.R_mono (Kd.R_lower HS.out.1 h2.out.2.2.2.size) (fun _ _ => trivial), below_step h2.out.2.2.2 HS.out.2.1⟩
def impl_NextStatements.f (n : Int) (talk : ByteArray) : Option (List ByteArray × Bool) := if talk.size ≤ 1048576 then some ((if impl_PairsLeft.ok n talk = true then Nx.next (impl_PairsLeft.rows n talk) 6 else []), impl_PairsLeft.ok n talk) else none
theorem impl_NextStatements.calls (n : Int) (talk : ByteArray) (r1 : List ByteArray) (r2 : Bool) (w : World) (h : impl_NextStatements.f n talk = some (r1, r2)) :
    Calls Try.prog 19 #[.int .i64 n, .string talk] w fun e w' => ∃ v0_ : Value, e = .returned (.tuple #[v0_, .bool r2]) ∧ Kd.R Kd.string 9 w' w.heap.size (fun _ => True) v0_ r1 ∧ Below w.heap.size w w' := by
  have hc : talk.size ≤ 1048576 := by
    unfold impl_NextStatements.f at h
    split at h
    · assumption
    · cases h
  unfold impl_NextStatements.f at h
  rw [if_pos hc] at h
  obtain ⟨rfl, rfl⟩ := Prod.mk.inj (Option.some.inj h)
  exact impl_NextStatements.has n talk hc w

end Go.Proofs.Ytlkbphhmahipdaa.P
namespace Go.Proofs.Ytlkbphhmahipdaa.P
open Go.RowKit Go.Proofs.YtlkbphhmahipdaaW.PrintWords Go.Proofs.YtlkbphhmahipdaaW.PrintLast Go.Proofs.YtlkbphhmahipdaaW.PrintMore
attribute [local go_sem] max2_int min2_int max_two min_two max_three min_three max_four min_four   -- for this text's walks alone
set_option linter.unusedVariables false
set_option linter.unusedSimpArgs false

/-! ### spec_taAlone: function 82, by hand -/
-- IMPORT Derived.Test.YtlkbphhmahipdaaAl
set_option maxHeartbeats 4000000 in
set_option maxRecDepth 100000 in
theorem spec_taAlone.has (s : Bool) (base lo : Nat) (v : Value) (ps : List Tk.PP) (w : World) (hH : Tk.Has 36 3 w base lo v ps) (hok : Tk.Ok ps) :
    Calls Try.prog 82 #[v, .string (Tk.wh s)] w fun e w' => ∃ v0_ : Value, e = .returned v0_ ∧ Kd.R (Kd.int .i64) 3 w' w.heap.size (fun _ => True) v0_ (Al.aln s (Tk.vals ps)) ∧ Below w.heap.size w w' := by
  obtain ⟨A, c, rfl, hc, _⟩ := hH.slice
  have TC : Aside0 (Calls Try.prog 109 #[.slice A ps.length c, .string (Tk.wh s)] w fun e w' => ∃ A' c', e = .returned (.slice A' 1601 c') ∧ Aside0 (Kd.C (Kd.int .i64) w' A' 1601 (spec_taCounts.cl s (Tk.vals ps)) ∧ Below w.heap.size w w')) := ⟨by
    have h1 := spec_taCounts.calls (ps.length + 1) A c (Tk.vals ps) (Tk.wh s) _ w hH.C (by rw [Tk.vals_len]; exact hc) (spec_taCounts.told s ps hok)
    rw [Tk.vals_len] at h1
    exact h1.mono fun e w' he => by
      obtain ⟨v', rfl, hR, hb⟩ := he
      obtain ⟨A', c', rfl, _, hC⟩ := Kd.R_reads hR
      rw [spec_taCounts.cl_len] at hC ⊢
      exact ⟨A', c', rfl, ⟨hC, hb⟩⟩⟩
  have HCL := Aside0.mk (show ∀ v : Int, 0 ≤ v → v < 1601 → rd (spec_taCounts.cl s (Tk.vals ps)) v = (Tk.cnt s (Tk.vals ps) v : Int) from fun v h0 h1 => spec_taCounts.cl_at s (Tk.vals ps) v ⟨h0, h1⟩)
  have HCN := Aside0.mk (show (spec_taCounts.cl s (Tk.vals ps)).length = 1601 from spec_taCounts.cl_len _ _)
  unfold Al.aln
  generalize spec_taCounts.cl s (Tk.vals ps) = cl at TC HCL HCN
  generalize Tk.cnt s (Tk.vals ps) = cn at HCL ⊢
  generalize Tk.wh s = wo at TC ⊢
  generalize ps.length = m at TC ⊢
  clear hH hok hc
  go_enter Try.func82, Try.ntmps82
  go_wp2_with (go_at_call 109; refine TC.out.mono ?_; rintro e w2 ⟨A', c', rfl, h2⟩; clear TC)
  obtain ⟨ad, eA, hcells⟩ : ∃ ad, A' = some ad ∧ ∀ i, i < 1601 → w2.cell? (ad.add i) = some (.int .i64 (cn (i : Int) : Int)) := by
    have hC := h2.out.1
    have hl := HCN.out
    rw [← hl] at hC
    obtain ⟨ad, e, _⟩ := Hlp.int_at hC 0 (by omega)
    refine ⟨ad, e, fun i hi => ?_⟩
    obtain ⟨ad', e', h'⟩ := Hlp.int_at hC i (by omega)
    rw [e] at e'
    injection e' with e'
    subst e'
    rw [h']
    have := HCL.out (i : Int) (by omega) (by omega)
    rw [← this]
    simp [rd, List.getD_eq_getElem?_getD, List.getElem?_eq_getElem (show i < cl.length by omega)]
  subst eA
  have HCE := Aside0.mk hcells
  clear hcells HCL HCN
  go_loopg [5, 12] 1601 (fun gg s5 s12 wr => ∃ q : Nat, s12 = .int .i64 (q : Int) ∧ q ≤ 1601 ∧ 1601 - q ≤ gg ∧ Aside0 (Kd.R (Kd.int .i64) 3 wr w2.heap.size (fun _ => True) s5 (Al.alnN q cn) ∧ Below w2.heap.size w2 wr))
  case atStart => exact ⟨0, rfl, by omega, by omega, ⟨Kd.R_nil _ _ _ _ _, Below.refl _ _⟩⟩
  case round =>
    obtain ⟨q, rfl, hq, hgg, HS⟩ := hrel
    by_cases hq1 : q < 1601
    · have hqz : (q : Int) < 1601 := by omega
      have hlen := Al.alnN_len q cn
      have hcell : wr.cell? (ad.add q) = some (.int .i64 (cn (q : Int) : Int)) := by
        have h1 := HCE.out q hq1
        exact pw_cell_below HS.out.2 h1
      by_cases h1 : cn (q : Int) = 1
      · have hL := Aside0.mk (Al.alnN_yes q cn h1)
        have h1z : (cn (q : Int) : Int) = 1 := by omega
        rw [h1z] at hcell
        clear h1z h1
        generalize Al.alnN q cn = xs at HS hL hlen
        go_wp2_with (first
          | ((with_reducible refine gate_builtin (b := .append) (xs := #[.tmp 19, .tmp 21]) rfl ?_); at_builtin; refine Kd.R_append (Kd.int .i64) (w0 := w2) w2.heap.size rfl (.tmp 19) (.tmp 21) 36 3 (.int .i64 0) 8 rfl Try.underlying36 (by kernel_rfl) rfl (by decide) (by omega) u5 xs (q : Int) [.int .i64 (q : Int)] (fun _ => True) (fun _ => False) rfl (by first | (go_simp; done) | (go_simp; rfl)) rfl (fun _ hk => hk.elim) (fun _ _ => trivial) HS.out.1 HS.out.2 HS.out.2.size (by omega) ?_; intro v9 w9 ho hb hg hat; have HO9 := Aside0.mk (show _ ∧ _ from ⟨ho, hb⟩); clear ho hb hg hat))
        go_roundg (1601 - (q + 1))
        case measure => omega
        case rel => exact ⟨q + 1, by go_num, by omega, by omega, ⟨by rw [hL.out]; exact HO9.out.1, HO9.out.2⟩⟩
      · have hL := Aside0.mk (Al.alnN_no q cn h1)
        have h1z : ¬ (cn (q : Int) : Int) = 1 := by omega
        clear h1
        go_wp2
        go_roundg (1601 - (q + 1))
        case measure => omega
        case rel => exact ⟨q + 1, by go_num, by omega, by omega, ⟨by rw [hL.out]; exact HS.out.1, HS.out.2⟩⟩
    · obtain rfl : q = 1601 := by omega
      go_wp2
      go_ret
      exact ⟨_, rfl, Kd.R_lower HS.out.1 h2.out.2.size, below_step h2.out.2 HS.out.2⟩

end Go.Proofs.Ytlkbphhmahipdaa.P
namespace Go.Proofs.Ytlkbphhmahipdaa.P
open Go.RowKit Go.Proofs.YtlkbphhmahipdaaW.PrintWords Go.Proofs.YtlkbphhmahipdaaW.PrintLast Go.Proofs.YtlkbphhmahipdaaW.PrintMore
attribute [local go_sem] max2_int min2_int max_two min_two max_three min_three max_four min_four   -- for this text's walks alone
set_option linter.unusedVariables false
set_option linter.unusedSimpArgs false

/-! ### spec_SumsAlone: function 28, by hand -/
-- IMPORT Derived.Test.YtlkbphhmahipdaaAl
def spec_SumsAlone.f (k : Nat) (n : Int) (talk : ByteArray) : Option (List Int × Bool) := if spec_taTalk.f k talk = some (impl_isTalk.ok talk) then some (Al.aln true (impl_PairsLeft.rows n talk), impl_PairsLeft.ok n talk) else none
theorem spec_SumsAlone.mono (n : Int) (talk : ByteArray) (k : Nat) : LeO (spec_SumsAlone.f k n talk) (spec_SumsAlone.f (k + 1) n talk) := by
  intro r h
  unfold spec_SumsAlone.f at h ⊢
  by_cases hk : spec_taTalk.f k talk = some (impl_isTalk.ok talk)
  · rw [if_pos (spec_taTalk.mono talk k _ hk)]
    rw [if_pos hk] at h
    exact h
  · rw [if_neg hk] at h
    cases h
set_option maxHeartbeats 4000000 in
set_option maxRecDepth 100000 in
theorem spec_SumsAlone.calls (k : Nat) (n : Int) (talk : ByteArray) (r1 : List Int) (r2 : Bool) (w : World) (h : spec_SumsAlone.f k n talk = some (r1, r2)) :
    Calls Try.prog 28 #[.int .i64 n, .string talk] w fun e w' => ∃ v0_ : Value, e = .returned (.tuple #[v0_, .bool r2]) ∧ Kd.R (Kd.int .i64) 3 w' w.heap.size (fun _ => True) v0_ r1 ∧ Below w.heap.size w w' := by
  have hk : spec_taTalk.f k talk = some (impl_isTalk.ok talk) := by
    unfold spec_SumsAlone.f at h
    split at h
    · assumption
    · cases h
  unfold spec_SumsAlone.f at h
  rw [if_pos hk] at h
  obtain ⟨rfl, rfl⟩ := Prod.mk.inj (Option.some.inj h)
  clear h
  have TB : Aside0 (∀ W, Calls Try.prog 72 #[.int .i64 n, .string talk] W fun e w' => e = .returned (.bool (impl_PairsLeft.ok n talk)) ∧ Aside0 (Below W.heap.size W w')) := ⟨fun W => (spec_taBoth.calls k n talk _ W (spec_taBoth.told n talk k hk)).mono fun e w' h => ⟨h.1, ⟨h.2.below⟩⟩⟩
  clear hk
  cases hok : impl_PairsLeft.ok n talk with
  | false =>
    rw [hok] at TB
    have e0 : impl_PairsLeft.rows n talk = [] := by unfold impl_PairsLeft.rows; rw [hok]; rfl
    rw [e0, Al.aln_nil]
    clear hok e0
    go_enter Try.func28, Try.ntmps28
    go_wp2_with (go_at_call 72; refine (TB.out _).mono ?_; rintro e w2 ⟨rfl, h2⟩)
    go_ret2
    exact ⟨_, rfl, Kd.R_nil _ _ _ _ _, h2.out⟩
  | true =>
    have hc : (2 ≤ n ∧ n ≤ 40) ∧ impl_isTalk.ok talk = true := by simpa [impl_PairsLeft.ok] using hok
    obtain ⟨h1, h2, h3, h4⟩ := impl_isTrue.parts talk hc.2
    have e0 : impl_PairsLeft.rows n talk = impl_isTrue.lft n talk := by unfold impl_PairsLeft.rows; rw [if_pos hok]
    have TL : Aside0 (∀ W, Calls Try.prog 73 #[.int .i64 n, .string talk] W fun e w' => ∃ (v : Value) (ps : List Tk.PP), e = .returned v ∧ Aside0 (Tk.Has 36 3 w' W.heap.size W.heap.size v ps ∧ Tk.vals ps = impl_PairsLeft.rows n talk ∧ Tk.Ok ps ∧ Below W.heap.size W w')) := ⟨fun W => by
      obtain ⟨m, rfl⟩ := Int.eq_ofNat_of_zero_le (show 0 ≤ n by omega)
      exact (spec_taLeft.has m (by omega) talk (talk.size / 2) (by omega) h1 _ _ h3 h4 W).mono fun e w' he => by
        obtain ⟨v, rfl, ps, h1, h2, h3, h4⟩ := he
        exact ⟨v, ps, rfl, ⟨h1, by rw [e0]; exact h2, h3, h4⟩⟩⟩
    have TA : Aside0 (∀ base lo v ps W, Tk.Has 36 3 W base lo v ps → Tk.Ok ps → Calls Try.prog 82 #[v, .string ⟨#[115]⟩] W fun e w' => ∃ v0_ : Value, e = .returned v0_ ∧ Aside0 (Kd.R (Kd.int .i64) 3 w' W.heap.size (fun _ => True) v0_ (Al.aln true (Tk.vals ps)) ∧ Below W.heap.size W w')) := ⟨fun base lo v ps W h1 h2 => (spec_taAlone.has true base lo v ps W h1 h2).mono fun e w' he => by
      obtain ⟨v0_, rfl, h3, h4⟩ := he
      exact ⟨v0_, rfl, ⟨h3, h4⟩⟩⟩
    rw [hok] at TB
    clear hok hc h1 h2 h3 h4 e0
    go_enter Try.func28, Try.ntmps28
    go_wp2_with (first
      | (go_at_call 72; refine (TB.out _).mono ?_; rintro e w2 ⟨rfl, h2⟩)
      | (go_at_call 73; refine (TL.out _).mono ?_; rintro e w3 ⟨v3, ps, rfl, h3⟩)
      | (go_at_call 82; refine (TA.out _ _ _ _ _ h3.out.1 h3.out.2.2.1).mono ?_; rintro e w4 ⟨v4, rfl, h4⟩))
    go_ret2
    exact ⟨_, rfl, by rw [← h3.out.2.1]; exact Kd.R_lower h4.out.1 (below_step h2.out h3.out.2.2.2).size, below_step (below_step h2.out h3.out.2.2.2) h4.out.2⟩

end Go.Proofs.Ytlkbphhmahipdaa.P
