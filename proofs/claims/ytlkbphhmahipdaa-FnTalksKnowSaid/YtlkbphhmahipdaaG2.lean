/- Calls of the functions of the given program return what the plain Lean functions of the same names return; and a row of a law out of its pure statement. Written by a program of this session out of the translation; Lean checks it. No condition. -/
import Derived.Test.YtlkbphhmahipdaaPk0
import Derived.Test.YtlkbphhmahipdaaG1
import Derived.Test.YtlkbphhmahipdaaTk
import Derived.Deep.RegionHeld3
import Derived.Test.YtlkbphhmahipdaaTs
import Derived.Test.YtlkbphhmahipdaaShl
import Derived.Test.YtlkbphhmahipdaaG0
import Derived.Test.YtlkbphhmahipdaaHlp
import Derived.BigQuiet
namespace Go.Proofs.Ytlkbphhmahipdaa.P
open Go.RowKit Go.Proofs.YtlkbphhmahipdaaW.PrintWords Go.Proofs.YtlkbphhmahipdaaW.PrintLast Go.Proofs.YtlkbphhmahipdaaW.PrintMore
attribute [local go_sem] max2_int min2_int max_two min_two max_three min_three max_four min_four   -- for this text's walks alone
set_option linter.unusedVariables false
set_option linter.unusedSimpArgs false

/-! ### impl_left: function 76, by hand -/
-- IMPORT Derived.Test.YtlkbphhmahipdaaTk
-- IMPORT Derived.Deep.RegionHeld3
theorem impl_left.row_mem (q : Int → Int → Bool) (a m : Nat) (x : List Int) (h : x ∈ impl_pairsThat.row q a m) : ∃ j : Nat, j < m ∧ x = [(a : Int), a + (j : Int)] := by
  unfold impl_pairsThat.row at h
  obtain ⟨j, hj, rfl⟩ := List.mem_map.1 h
  exact ⟨j, List.mem_range.1 (List.mem_filter.1 hj).1, rfl⟩
theorem impl_left.all_len (q : Int → Int → Bool) (n m : Nat) : (impl_pairsThat.all q n m).length ≤ m * n := by
  induction m with
  | zero => simp [impl_pairsThat.all]
  | succ m ih =>
    rw [impl_pairsThat.all_succ, List.length_append, Nat.add_mul, Nat.one_mul]
    have : (impl_pairsThat.row q (m + 1) (n - m)).length ≤ n - m := by
      unfold impl_pairsThat.row
      rw [List.length_map]
      exact Nat.le_trans (List.length_filter_le _ _) (by simp)
    omega
theorem impl_left.all_mem (q : Int → Int → Bool) (n : Nat) (x : List Int) (h : x ∈ impl_pairsThat.all q n n) : ∃ a b : Int, x = [a, b] ∧ 1 ≤ a ∧ a ≤ b ∧ b ≤ (n : Int) := by
  unfold impl_pairsThat.all at h
  obtain ⟨i, hi, h⟩ := List.mem_flatMap.1 h
  have hi := List.mem_range.1 hi
  obtain ⟨j, hj, rfl⟩ := impl_left.row_mem q (i + 1) (n - i) x h
  exact ⟨_, _, rfl, by omega, by omega, by omega⟩
theorem impl_left.ok_all (q : Int → Int → Bool) (n : Nat) (hn : n ≤ 40) (ps : List Tk.PP) (h : Tk.vals ps = impl_pairsThat.all q n n) : Tk.Ok ps := by
  refine ⟨?_, fun p hp => ?_⟩
  · have h1 := impl_left.all_len q n n
    rw [← h, Tk.vals_len] at h1
    have : n * n ≤ 40 * 40 := Nat.mul_le_mul hn hn
    omega
  · have h1 : Tk.vl p ∈ impl_pairsThat.all q n n := by rw [← h]; exact List.mem_map_of_mem hp
    obtain ⟨a, b, e, h2, h3, h4⟩ := impl_left.all_mem q n _ h1
    have e' : [p.2.1, p.2.2] = [a, b] := e
    injection e' with e1 e2
    injection e2 with e2
    omega
/-- All pairs up to n. -/
def impl_left.pairs (n : Nat) : List (List Int) := impl_pairsThat.all (fun _ _ => true) n n
set_option maxHeartbeats 1000000 in
theorem impl_allPairs.has (n : Nat) (hn : n ≤ 40) (w : World) : Calls Try.prog 92 #[.int .i64 (n : Int)] w fun e w' => ∃ v : Value, e = .returned v ∧ ∃ ps : List Tk.PP, Tk.Has 36 3 w' w.heap.size w.heap.size v ps ∧ Tk.vals ps = impl_left.pairs n ∧ Below w.heap.size w w' := by
  have eg : ∀ args w, (callFunc 122 args).run Try.prog w = .ok (.enter 122 args) w := enters_of Try.func122 (by kernel_rfl) rfl
  have hcon := impl_pairsThat.any (fun _ _ => true) 122 #[] eg n (by omega) w (fun p W _ _ => by
    go_enter Try.func122, Try.ntmps122
    go_wp2
    go_ret
    exact ⟨rfl, Below.refl _ _⟩)
  have HC := Aside0.mk hcon
  clear hcon
  go_enter Try.func92, Try.ntmps92
  go_wp2_with (go_at_call 100; refine HC.out.mono ?_; rintro e w' ⟨v, rfl, h⟩; have H := Aside0.mk h; clear h)
  go_ret
  exact ⟨_, rfl, H.out⟩
/-- What is left behind a talk's first statements. -/
def impl_left.rest (n : Nat) (sp : Nat → Bool) (wt : Nat → Int) : Nat → List (List Int)
  | 0 => impl_left.pairs n
  | j + 1 => Tk.say (sp j) (wt j) (impl_left.rest n sp wt j)
set_option maxHeartbeats 4000000 in
set_option maxRecDepth 100000 in
theorem impl_left.has (n : Nat) (hn : n ≤ 40) (talk : ByteArray) (m : Nat) (hm : m ≤ 1000) (hsz : talk.size = 2 * m) (sp : Nat → Bool) (wt : Nat → Int) (ht : ∀ j, j < m → talk.extract (2 * j) (2 * j + 1) = Tk.wh (sp j) ∧ bt talk (2 * (j : Int) + 1) = wt j) (w : World) :
    Calls Try.prog 76 #[.int .i64 (n : Int), .string talk] w fun e w' => ∃ v : Value, e = .returned v ∧ ∃ ps : List Tk.PP, Tk.Has 36 3 w' w.heap.size w.heap.size v ps ∧ Tk.vals ps = impl_left.rest n sp wt m ∧ Tk.Ok ps ∧ Below w.heap.size w w' := by
  have hall := impl_allPairs.has n hn w
  have HA := Aside0.mk hall
  have HT := Aside0.mk ht
  have HZ := Aside0.mk hsz
  have hszz : (talk.size : Int) = 2 * (m : Int) := by omega
  have HSZ := Aside0.mk hszz
  have hsb : (talk.size : Int) ≤ 2000 := by omega
  clear hall ht hsz hszz
  go_enter Try.func76, Try.ntmps76
  go_wp2_with (go_at_call 92; refine HA.out.mono ?_; rintro e w2 ⟨v, rfl, h⟩; have H := Aside0.mk h; clear h HA)
  go_loopg [5, 6] m (fun gg s5 s6 wr => ∃ (j : Nat) (i : Int), s6 = .int .i64 i ∧ j ≤ m ∧ m - j ≤ gg ∧ Aside0 (i = 2 * (j : Int)) ∧ Aside0 (∃ (b : Nat) (ps : List Tk.PP), w.heap.size ≤ b ∧ Tk.Has 36 3 wr b w.heap.size s5 ps ∧ Tk.vals ps = impl_left.rest n sp wt j ∧ Tk.Ok ps ∧ Below w.heap.size w wr))
  case atStart =>
    refine ⟨0, 0, rfl, Nat.zero_le _, by omega, ⟨rfl⟩, ⟨?_⟩⟩
    obtain ⟨ps, h1, h2, h3⟩ := H.out
    exact ⟨_, ps, Nat.le_refl _, h1, h2, impl_left.ok_all _ n hn ps h2, h3⟩
  case round =>
    obtain ⟨j, i, rfl, hj, hgg, HI, HS⟩ := hrel
    clear H
    by_cases hjm : j < m
    · have hlt : i < (talk.size : Int) := by have := HI.out; have := HSZ.out; omega
      have hi0 : 0 ≤ i := by have := HI.out; have := HSZ.out; omega
      have hi2 : i + 1 < (talk.size : Int) := by have := HI.out; have := HSZ.out; omega
      obtain ⟨i1, hi1⟩ : ∃ i1, i1 = i + 1 := ⟨_, rfl⟩
      have hw1 : IntKind.i64.wrap (i + 1) = i1 := by rw [hi1]; exact IntWalk.i64_in _ (by omega)
      have hle : i ≤ i1 := by omega
      have hi3 : i1 ≤ (talk.size : Int) := by omega
      have hi4 : 0 ≤ i1 := by omega
      have hi5 : i1 < (talk.size : Int) := by omega
      have hx12 := bt_at talk i1
      obtain ⟨b, ps, hb0, hH, hv, hok, hbel⟩ := HS.out
      obtain ⟨e1, e2⟩ := HT.out j hjm
      have ex : talk.extract i.toNat i1.toNat = Tk.wh (sp j) := by
        have h1 : i.toNat = 2 * j := by have := HI.out; have := HSZ.out; omega
        have h2 : i1.toNat = 2 * j + 1 := by have := HI.out; have := HSZ.out; omega
        rw [h1, h2, e1]
      have eb : bt talk i1 = wt j := by rw [hi1, HI.out]; exact e2
      have hbh := fun q => impl_behind.all (sp j) (wt j) b w.heap.size u5 ps (wr.drewN q) (hH.below (pw_below_drewN (Below.refl _ _) q)) hok
      have HBH := Aside0.mk (show ∀ q, Calls Try.prog 78 #[u5, .string (Tk.wh (sp j)), .int .u8 (wt j)] (wr.drewN q) fun e w' => ∃ v', e = .returned v' ∧ Aside0 (∃ (b : Nat) (ps : List Tk.PP), w.heap.size ≤ b ∧ Tk.Has 36 3 w' b w.heap.size v' ps ∧ Tk.vals ps = impl_left.rest n sp wt (j + 1) ∧ Tk.Ok ps ∧ Below w.heap.size w w') from fun q => (hbh q).mono fun e w' he => by
        obtain ⟨v', rfl, h1, h2⟩ := he
        exact ⟨v', rfl, ⟨(wr.drewN q).heap.size, _, hbel.size, h1, by rw [impl_behind.sel_vals, hv]; rfl, impl_behind.sel_ok _ _ _ hok, below_step (below_step hbel (pw_below_drewN (Below.refl _ _) q)) h2⟩⟩)
      have HI1 := Aside0.mk hi1
      clear hbh hH hv hok hbel e1 e2 hb0 hi2 hi1
      rw [ex.symm, eb.symm] at HBH
      clear ex eb
      go_wp2
      go_region_held3 (fun _ => True) (trivial) (first | (go_at_call 78; refine (HBH.out _).mono ?_; rintro e w7 ⟨v7, rfl, H7⟩))
      go_simp
      go_wp2
      go_roundg (m - (j + 1))
      case measure => omega
      case rel => exact ⟨j + 1, i + 2, by go_num, by omega, by omega, ⟨by have := HI.out; omega⟩, H7⟩
    · have hlt : ¬ i < (talk.size : Int) := by have := HI.out; have := HSZ.out; omega
      obtain rfl : j = m := by omega
      go_wp2
      go_ret
      obtain ⟨b, ps, h1, h2, h3⟩ := HS.out
      exact ⟨_, rfl, ps, h2.lower h1 (Nat.le_refl _), h3⟩

end Go.Proofs.Ytlkbphhmahipdaa.P
namespace Go.Proofs.Ytlkbphhmahipdaa.P
open Go.RowKit Go.Proofs.YtlkbphhmahipdaaW.PrintWords Go.Proofs.YtlkbphhmahipdaaW.PrintLast Go.Proofs.YtlkbphhmahipdaaW.PrintMore
attribute [local go_sem] max2_int min2_int max_two min_two max_three min_three max_four min_four   -- for this text's walks alone
set_option linter.unusedVariables false
set_option linter.unusedSimpArgs false

/-! ### spec_taPairs: function 94, by hand -/
-- IMPORT Derived.Test.YtlkbphhmahipdaaTk
-- IMPORT Derived.Test.YtlkbphhmahipdaaTs
set_option maxHeartbeats 4000000 in
set_option maxRecDepth 100000 in
theorem spec_taPairs.has (n : Nat) (hn : n ≤ 40) (w : World) :
    Calls Try.prog 94 #[.int .i64 (n : Int)] w fun e w' => ∃ v : Value, e = .returned v ∧ ∃ ps : List Tk.PP, Tk.Has 36 3 w' w.heap.size w.heap.size v ps ∧ Tk.vals ps = impl_left.pairs n ∧ Below w.heap.size w w' := by
  have hn : n ≤ 1000 := by omega
  unfold impl_left.pairs
  go_enter Try.func94, Try.ntmps94
  go_wp2
  have HS0 := Aside0.mk (show impl_pairsThat.St w w (.slice none 0 0) [] [] 0 from ⟨Tk.Has.nil _ _ _, rfl, Nat.le_refl _, Below.refl _ _⟩)
  go_loopg [3, 4] n (fun gg s5 s6 wr => ∃ (i : Nat) (a : Int) (ps : List Tk.PP), s6 = .int .i64 a ∧ i ≤ n ∧ n - i ≤ gg ∧ Aside0 (a = (i : Int) + 1) ∧ Aside0 (impl_pairsThat.St w wr s5 ps (impl_pairsThat.all (fun _ _ => true) n i) (i * 1000)))
  case atStart => exact ⟨0, 1, [], rfl, Nat.zero_le _, by omega, ⟨rfl⟩, ⟨by simpa [impl_pairsThat.all] using HS0.out⟩⟩
  case round =>
    obtain ⟨i, a, ps, rfl, hin, hgg, HA, HS⟩ := hrel
    clear HS0
    by_cases hi : i < n
    · have hiz : a ≤ (n : Int) := by have := HA.out; omega
      have ha0 : 1 ≤ a := by have := HA.out; omega
      have hN : (n : Int) ≤ 1000 := by omega
      go_wp2
      go_loopg [3, 5] (n - i) (fun gg s5 s7 wr => ∃ (j : Nat) (b : Int) (ps : List Tk.PP), s7 = .int .i64 b ∧ j ≤ n - i ∧ n - i - j ≤ gg ∧ Aside0 (b = a + j) ∧ Aside0 (impl_pairsThat.St w wr s5 ps (impl_pairsThat.all (fun _ _ => true) n i ++ impl_pairsThat.row (fun _ _ => true) (i + 1) j) (i * 1000 + j)))
      case atStart => exact ⟨0, a, ps, rfl, Nat.zero_le _, by omega, ⟨by simp⟩, ⟨by simpa [impl_pairsThat.row] using HS.out⟩⟩
      case round =>
        obtain ⟨j, b, ps, rfl, hj, hgg, HB, HS⟩ := hrel
        by_cases hjn : j < n - i
        · have hjz : b ≤ (n : Int) := by have := HA.out; have := HB.out; omega
          have hb0 : 1 ≤ b := by have := HA.out; have := HB.out; omega
          have EV := Aside0.mk (show [a, b] = [((i + 1 : Nat) : Int), ((i + 1 : Nat) : Int) + (j : Int)] by rw [HB.out, HA.out]; simp)
          have HK := Aside0.mk (show impl_pairsThat.St w (wr.alloc (.cells #[.int .i64 a, .int .i64 b] 3)) u3 ps (impl_pairsThat.all (fun _ _ => true) n i ++ impl_pairsThat.row (fun _ _ => true) (i + 1) j) (i * 1000 + j) ∧ (w.heap.size ≤ wr.heap.size ∧ (wr.alloc (.cells #[.int .i64 a, .int .i64 b] 3)).heap[wr.heap.size]? = some (.cells #[.int .i64 a, .int .i64 b] 3 (0, 0))) ∧ (∀ p ∈ ps, p.1 ≠ wr.heap.size) ∧ u3.ownBlock ≠ some wr.heap.size from by
            have hb := below_alloc (Below.refl wr.heap.size wr) (.cells #[.int .i64 a, .int .i64 b] 3)
            refine ⟨⟨HS.out.has.below hb, HS.out.val, HS.out.few, below_step HS.out.bel hb⟩, ⟨HS.out.bel.size, ?_⟩, fun p hp => ?_, fun e => ?_⟩
            · show (wr.heap.push _)[wr.heap.size]? = _
              simp
            · have := HS.out.has.inn.lt p hp; omega
            · have := (HS.out.has.lt _ e).2; omega)
          go_wp2_with ((with_reducible refine gate_builtin (b := .append) (xs := #[.tmp 17, .tmp 21]) rfl ?_); at_builtin; refine Kd.R_append Tk.KP (w0 := w) (W := wr.alloc (.cells #[.int .i64 a, .int .i64 b] 3)) w.heap.size rfl (.tmp 17) (.tmp 21) 25 36 (.slice none 0 0) 24 rfl Try.underlying25 (by kernel_rfl) rfl (by decide) (by omega) u3 ps (wr.heap.size, a, b) [.slice (some ⟨wr.heap.size, 0, none⟩) 2 2] (fun _ => True) (fun _ => False) rfl (by first | (go_simp; done) | (go_simp; rfl)) rfl (fun _ hk => hk.elim) (fun _ _ => trivial) HK.out.1.has.R HK.out.1.bel HK.out.1.bel.size (by have := HK.out.1.few; omega) ?_; intro v3 w3 ho hb hg hat; have HO := Aside0.mk (HK.out.1.has.push (wr.heap.size, a, b) HK.out.2.1 HK.out.2.2.1 HK.out.2.2.2 ho hg hat); have HB3 := Aside0.mk hb; clear ho hb hg hat)
          go_roundg (n - i - (j + 1))
          case measure => omega
          case rel =>
            exact ⟨j + 1, b + 1, ps ++ [(wr.heap.size, a, b)], by go_num, by omega, by omega, ⟨by have := HB.out; omega⟩, ⟨HO.out, by rw [impl_pairsThat.row_yes (fun _ _ => true) (i + 1) j rfl, ← List.append_assoc, ← EV.out, ← HK.out.1.val]; simp [Tk.vals, Tk.vl], by rw [List.length_append, List.length_singleton]; have := HK.out.1.few; omega, HB3.out⟩⟩
        · have hjz : ¬ b ≤ (n : Int) := by have := HA.out; have := HB.out; omega
          obtain rfl : j = n - i := by omega
          go_wp2
          go_roundg (n - (i + 1))
          case measure => omega
          case rel => exact ⟨i + 1, a + 1, ps, by go_num, by omega, by omega, ⟨by have := HA.out; omega⟩, ⟨HS.out.has, by rw [impl_pairsThat.all_succ]; exact HS.out.val, by have := HS.out.few; omega, HS.out.bel⟩⟩
    · have hiz : ¬ a ≤ (n : Int) := by have := HA.out; omega
      obtain rfl : i = n := by omega
      go_wp2
      go_ret
      exact ⟨_, rfl, _, HS.out.has, HS.out.val, HS.out.bel⟩
def spec_taPairs.f (n : Int) : Option (List (List Int)) := if 0 ≤ n ∧ n ≤ 40 then some (impl_left.pairs n.toNat) else none
theorem spec_taPairs.calls (n : Int) (r : List (List Int)) (w : World) (h : spec_taPairs.f n = some r) :
    Calls Try.prog 94 #[.int .i64 n] w fun e w' => ∃ v0_ : Value, e = .returned v0_ ∧ Kd.S (Kd.slice 3 (Kd.int .i64)) 36 w' w.heap.size (fun _ => True) v0_ r ∧ Below w.heap.size w w' := by
  have hc : 0 ≤ n ∧ n ≤ 40 := by
    unfold spec_taPairs.f at h
    split at h
    · assumption
    · cases h
  unfold spec_taPairs.f at h
  rw [if_pos hc] at h
  obtain rfl := Option.some.inj h
  obtain ⟨m, rfl⟩ := Int.eq_ofNat_of_zero_le hc.1
  exact (spec_taPairs.has m (by omega) w).mono fun e w' he => by
    obtain ⟨v, rfl, ps, h1, h2, h3⟩ := he
    have hS := h1.S (Nat.le_refl _) (Nat.le_refl _)
    rw [h2] at hS
    exact ⟨v, rfl, hS, h3⟩

end Go.Proofs.Ytlkbphhmahipdaa.P
namespace Go.Proofs.Ytlkbphhmahipdaa.P
open Go.RowKit Go.Proofs.YtlkbphhmahipdaaW.PrintWords Go.Proofs.YtlkbphhmahipdaaW.PrintLast Go.Proofs.YtlkbphhmahipdaaW.PrintMore
attribute [local go_sem] max2_int min2_int max_two min_two max_three min_three max_four min_four   -- for this text's walks alone
set_option linter.unusedVariables false
set_option linter.unusedSimpArgs false

/-! ### impl_isWho: function 87 -/
def impl_isWho.f (a0 : ByteArray) : Option (Bool) := if a0.toList = ([115] : List UInt8) then (some true) else (some (a0.toList == ([112] : List UInt8)))
set_option maxHeartbeats 8000000 in
set_option maxRecDepth 100000 in
theorem impl_isWho.calls (a0 : ByteArray) (r : Bool) (w : World) (h : impl_isWho.f a0 = some r) :
  Calls Try.prog 87 #[.string a0] w fun e w' => e = .returned (.bool r) ∧ Drawn0 w w' := by
 have H : (if a0.toList = ([115] : List UInt8) then (some true) else (some (a0.toList == ([112] : List UInt8)))) = some r := h
 clear h
 by_cases c2 : a0.toList = ([115] : List UInt8)
 ·rw [if_pos c2] at H
  have c2b0 : (a0.toList == ([115] : List UInt8)) = true := beq_iff_eq.mpr c2
  have c2b1 : (a0.toList != ([115] : List UInt8)) = false := bne_eq_false_iff_eq.mpr c2
  clear c2
  obtain rfl := Option.some.inj H
  go_enter Try.func87, Try.ntmps87
  go_wp2
  go_ret
  exact ⟨by first | rfl | (simp; done) | (simp [*]; done), by repeat (first | exact Drawn0.refl _ | apply Drawn0.step)⟩
 ·rw [if_neg c2] at H
  have c2b0 : (a0.toList == ([115] : List UInt8)) = false := beq_eq_false_iff_ne.mpr c2
  have c2b1 : (a0.toList != ([115] : List UInt8)) = true := bne_iff_ne.mpr c2
  obtain rfl := Option.some.inj H
  go_enter Try.func87, Try.ntmps87
  go_wp2
  go_ret
  exact ⟨by first | rfl | (simp; done) | (simp [*]; done), by repeat (first | exact Drawn0.refl _ | apply Drawn0.step)⟩

-- NOT PRINTED: function 128 (bytealg_IndexByteString)

-- NOT PRINTED: function 123 (stringslite_IndexByte)

-- NOT PRINTED: function 108 (strings_IndexByte)

end Go.Proofs.Ytlkbphhmahipdaa.P
namespace Go.Proofs.Ytlkbphhmahipdaa.P
open Go.RowKit Go.Proofs.YtlkbphhmahipdaaW.PrintWords Go.Proofs.YtlkbphhmahipdaaW.PrintLast Go.Proofs.YtlkbphhmahipdaaW.PrintMore
attribute [local go_sem] max2_int min2_int max_two min_two max_three min_three max_four min_four   -- for this text's walks alone
set_option linter.unusedVariables false
set_option linter.unusedSimpArgs false

/-! ### impl_isTalk: function 75, by hand -/
-- IMPORT Derived.Test.YtlkbphhmahipdaaTk
-- IMPORT Derived.Test.YtlkbphhmahipdaaShl
/-- Is a text a talk? -/
def impl_isTalk.one (talk : ByteArray) (j : Nat) : Bool := (decide (bt talk (2 * (j : Int)) = 115) || decide (bt talk (2 * (j : Int)) = 112)) && (decide (bt talk (2 * (j : Int) + 1) = 45) || decide (bt talk (2 * (j : Int) + 1) = 43) || decide (bt talk (2 * (j : Int) + 1) = 33))
def impl_isTalk.ok (talk : ByteArray) : Bool := decide (talk.size % 2 = 0) && decide (talk.size ≤ 24) && (List.range (talk.size / 2)).all (impl_isTalk.one talk)
theorem impl_isTalk.cut (talk : ByteArray) (i : Nat) (h : i < talk.size) : talk.extract i (i + 1) = ⟨#[talk[i]]⟩ := by
  apply ByteArray.ext
  rw [ByteArray.data_extract]
  apply Array.ext
  · have : talk.data.size = talk.size := rfl
    simp; omega
  · intro j h1 h2
    have : j = 0 := by simp at h2; omega
    subst this
    simp
    rfl
theorem impl_isTalk.who (talk : ByteArray) (i : Nat) (h : i < talk.size) : impl_isWho.f (talk.extract i (i + 1)) = some (decide (bt talk (i : Int) = 115) || decide (bt talk (i : Int) = 112)) := by
  rw [impl_isTalk.cut talk i h]
  have hb : bt talk (i : Int) = (talk[i].toNat : Int) := by simp [bt, h]
  rw [hb]
  generalize talk[i] = b
  have hl : (⟨#[b]⟩ : ByteArray).toList = [b] := by rw [ByteArray.toList_eq]
  unfold impl_isWho.f
  rw [hl]
  have h115 : ([b] = ([115] : List UInt8)) ↔ ((b.toNat : Int) = 115) := by
    constructor
    · intro e; injection e with e; subst e; rfl
    · intro e; have : b = 115 := UInt8.toNat_inj.1 (by have : b.toNat = 115 := by omega
                                                       rw [this]; rfl)
      rw [this]
  have h112 : ([b] == ([112] : List UInt8)) = decide ((b.toNat : Int) = 112) := by
    rw [Bool.eq_iff_iff, beq_iff_eq, decide_eq_true_eq]
    constructor
    · intro e; injection e with e; subst e; rfl
    · intro e; have : b = 112 := UInt8.toNat_inj.1 (by have : b.toNat = 112 := by omega
                                                       rw [this]; rfl)
      rw [this]
  by_cases h : (b.toNat : Int) = 115
  · rw [if_pos (h115.2 h)]; simp [h]
  · rw [if_neg (fun e => h (h115.1 e)), h112]; simp [h]
set_option maxRecDepth 100000 in
theorem impl_isTalk.idx (c : Int) (h : 0 ≤ c ∧ c ≤ 255) : decide (Lib.indexByte [45, 43, 33] c.toNat.toUInt8 < 0) = !(decide (c = 45) || decide (c = 43) || decide (c = 33)) := by
  obtain ⟨n, rfl⟩ := Int.eq_ofNat_of_zero_le h.1
  have hn : n < 256 := by omega
  have key : ∀ n : Fin 256, decide (Lib.indexByte [45, 43, 33] n.val.toUInt8 < 0) = !(decide (n.val = 45) || decide (n.val = 43) || decide (n.val = 33)) := by decide
  have k := key ⟨n, hn⟩
  have e : ∀ q : Nat, decide ((n : Int) = (q : Int)) = decide (n = q) := fun q => by rw [decide_eq_decide]; omega
  rw [show ((45 : Int)) = ((45 : Nat) : Int) from rfl, show ((43 : Int)) = ((43 : Nat) : Int) from rfl, show ((33 : Int)) = ((33 : Nat) : Int) from rfl, e, e, e, Int.toNat_natCast]
  exact k
def impl_isTalk.f (talk : ByteArray) : Option Bool := if talk.size ≤ 1048576 then some (impl_isTalk.ok talk) else none
set_option maxHeartbeats 4000000 in
set_option maxRecDepth 100000 in
theorem impl_isTalk.calls (talk : ByteArray) (r : Bool) (w : World) (h : impl_isTalk.f talk = some r) :
    Calls Try.prog 75 #[.string talk] w fun e w' => e = .returned (.bool r) ∧ Below w.heap.size w w' := by
  have hsz : talk.size ≤ 1048576 := by
    unfold impl_isTalk.f at h
    split at h
    · assumption
    · cases h
  obtain rfl : impl_isTalk.ok talk = r := by unfold impl_isTalk.f at h; rw [if_pos hsz] at h; exact Option.some.inj h
  clear h
  by_cases h1 : talk.size % 2 = 0
  · by_cases h2 : talk.size ≤ 24
    · obtain ⟨m, hm⟩ : ∃ m, talk.size = 2 * m := ⟨talk.size / 2, by omega⟩
      have eok : impl_isTalk.ok talk = (List.range m).all (impl_isTalk.one talk) := by
        have : talk.size / 2 = m := by omega
        simp [impl_isTalk.ok, h1, h2, this]
      rw [eok]
      have hz1 : (talk.size : Int).tmod 2 = 0 := by rw [Int.tmod_eq_emod_of_nonneg (by omega)]; omega
      have hz2 : (talk.size : Int) ≤ 24 := by omega
      have T87 : Aside0 (∀ j : Nat, j < m → ∀ W, Calls Try.prog 87 #[.string (talk.extract (2 * j) (2 * j + 1))] W fun e w' => e = .returned (.bool (decide (bt talk (2 * (j : Int)) = 115) || decide (bt talk (2 * (j : Int)) = 112))) ∧ ∃ q, w' = W.drewN q) := ⟨fun j hj W => by
        have := impl_isTalk.who talk (2 * j) (by omega)
        rw [show ((2 * j : Nat) : Int) = 2 * (j : Int) by omega] at this
        exact (impl_isWho.calls _ _ W this).mono fun e w' h => ⟨h.1, h.2.out⟩⟩
      have T108 : Aside0 (∀ c : Int, 0 ≤ c → c ≤ 255 → ∀ W, Calls Try.prog 108 #[.string ⟨#[45, 43, 33]⟩, .int .u8 c] W fun e w' => ∃ q, e = .returned (.int .i64 q) ∧ w' = W ∧ (decide (q < 0) = !(decide (c = 45) || decide (c = 43) || decide (c = 33)))) := ⟨fun c h0 h3 W =>
        (Try.strings_IndexByte ⟨#[45, 43, 33]⟩ c W).mono fun e w' h => ⟨_, h.1, h.2, impl_isTalk.idx c ⟨h0, h3⟩⟩⟩
      clear eok
      go_enter Try.func75, Try.ntmps75
      go_wp2
      go_loopg [3] m (fun gg s3 wr => ∃ (j : Nat) (i : Int), s3 = .int .i64 i ∧ j ≤ m ∧ m - j ≤ gg ∧ Aside0 (i = 2 * (j : Int) ∧ (List.range j).all (impl_isTalk.one talk) = true) ∧ Aside0 (Below w.heap.size w wr))
      case atStart => exact ⟨0, 0, rfl, Nat.zero_le _, by omega, ⟨rfl, rfl⟩, ⟨Below.refl _ _⟩⟩
      case round =>
        obtain ⟨j, i, rfl, hj, hgg, HI, HB⟩ := hrel
        by_cases hjm : j < m
        · have hi0 : 0 ≤ i := by have := HI.out.1; omega
          have hlt : i < 2 * (m : Int) := by have := HI.out.1; omega
          have hi1 : i + 1 < 2 * (m : Int) := by have := HI.out.1; omega
          have hi2 : i + 1 ≤ 2 * (m : Int) := by omega
          have hi3 : i ≤ i + 1 := by omega
          have hi4 : 0 ≤ i + 1 := by omega
          have hm24 : 2 * (m : Int) ≤ 24 := by omega
          have hx12 := bt_at talk (i + 1)
          have hr := bt_range talk (i + 1)
          have T1 := Aside0.mk (T87.out j hjm)
          have T2 := Aside0.mk (T108.out (bt talk (i + 1)) hr.1 hr.2)
          have e1 : 2 * j = i.toNat := by have := HI.out.1; omega
          have e2 : 2 * j + 1 = (i + 1).toNat := by have := HI.out.1; omega
          have e3 : 2 * (j : Int) = i := by have := HI.out.1; omega
          rw [e2, e1, e3] at T1
          have HALL := Aside0.mk (show (impl_isTalk.one talk j = true → (List.range (j + 1)).all (impl_isTalk.one talk) = true) ∧ (impl_isTalk.one talk j = false → (List.range m).all (impl_isTalk.one talk) = false) from ⟨fun h => by rw [List.range_succ, List.all_append, HI.out.2]; simp [h], fun h => List.all_eq_false.2 ⟨j, List.mem_range.2 hjm, by simp [h]⟩⟩)
          have EO : impl_isTalk.one talk j = ((decide (bt talk i = 115) || decide (bt talk i = 112)) && (decide (bt talk (i + 1) = 45) || decide (bt talk (i + 1) = 43) || decide (bt talk (i + 1) = 33))) := by unfold impl_isTalk.one; rw [e3]
          rw [EO] at HALL
          clear EO e1 e2 e3 hr
          cases hb : (decide (bt talk i = 115) || decide (bt talk i = 112)) with
          | false =>
            rw [hb] at T1 HALL
            clear hb T2
            go_wp2_with (go_at_call 87; refine (T1.out _).mono ?_; rintro e w2 ⟨rfl, q, rfl⟩)
            go_ret
            exact ⟨by rw [HALL.out.2 rfl]; rfl, below_step HB.out (pw_below_drewN (Below.refl _ _) q)⟩
          | true =>
            rw [hb] at T1 HALL
            clear hb
            cases hb3 : (decide (bt talk (i + 1) = 45) || decide (bt talk (i + 1) = 43) || decide (bt talk (i + 1) = 33)) with
            | false =>
              rw [hb3] at T2 HALL
              clear hb3
              go_wp2_with (first
                | (go_at_call 87; refine (T1.out _).mono ?_; rintro e w2 ⟨rfl, q, rfl⟩)
                | (go_at_call 108; refine (T2.out _).mono ?_; rintro e w3 ⟨x, rfl, rfl, hx⟩; have hx := of_decide_eq_true hx))
              go_ret
              exact ⟨by rw [HALL.out.2 rfl]; rfl, below_step HB.out (pw_below_drewN (Below.refl _ _) q)⟩
            | true =>
              rw [hb3] at T2 HALL
              clear hb3
              go_wp2_with (first
                | (go_at_call 87; refine (T1.out _).mono ?_; rintro e w2 ⟨rfl, q, rfl⟩)
                | (go_at_call 108; refine (T2.out _).mono ?_; rintro e w3 ⟨x, rfl, rfl, hx⟩; have hx := of_decide_eq_false hx))
              go_roundg (m - (j + 1))
              case measure => omega
              case rel => exact ⟨j + 1, i + 2, by go_num, by omega, by omega, ⟨by have := HI.out.1; omega, HALL.out.1 rfl⟩, ⟨below_step HB.out (pw_below_drewN (Below.refl _ _) q)⟩⟩
        · have hlt : ¬ i < 2 * (m : Int) := by have := HI.out.1; omega
          obtain rfl : j = m := by omega
          go_wp2
          go_ret
          exact ⟨by rw [HI.out.2]; rfl, HB.out⟩
    · have e : impl_isTalk.ok talk = false := by simp [impl_isTalk.ok, h2]
      rw [e]
      have hz1 : (talk.size : Int).tmod 2 = 0 := by rw [Int.tmod_eq_emod_of_nonneg (by omega)]; omega
      have hz2 : (24 : Int) < (talk.size : Int) := by omega
      clear e h1 h2
      go_enter Try.func75, Try.ntmps75
      go_wp2
      go_ret
      exact ⟨rfl, Below.refl _ _⟩
  · have e : impl_isTalk.ok talk = false := by simp [impl_isTalk.ok, h1]
    rw [e]
    have hz1 : ¬ (talk.size : Int).tmod 2 = 0 := by rw [Int.tmod_eq_emod_of_nonneg (by omega)]; omega
    clear e h1
    go_enter Try.func75, Try.ntmps75
    go_wp2
    go_ret
    exact ⟨rfl, Below.refl _ _⟩

end Go.Proofs.Ytlkbphhmahipdaa.P
namespace Go.Proofs.Ytlkbphhmahipdaa.P
open Go.RowKit Go.Proofs.YtlkbphhmahipdaaW.PrintWords Go.Proofs.YtlkbphhmahipdaaW.PrintLast Go.Proofs.YtlkbphhmahipdaaW.PrintMore
attribute [local go_sem] max2_int min2_int max_two min_two max_three min_three max_four min_four   -- for this text's walks alone
set_option linter.unusedVariables false
set_option linter.unusedSimpArgs false

/-! ### slices_ContainsFunc_int_int: function 115, by hand -/
-- IMPORT Derived.Test.YtlkbphhmahipdaaHlp
-- IMPORT Derived.Test.YtlkbphhmahipdaaTk
set_option maxHeartbeats 1000000 in
/-- slices.ContainsFunc at rows of pairs: is there an element of which p holds. -/
theorem slices_ContainsFunc_PP.any (p : Tk.PP → Bool) (g : Nat) (lb : Array Value) (eg : ∀ args w, (callFunc g args).run Try.prog w = .ok (.enter g args) w) (A0 : Option Addr) (c0 : Nat) (l0 : List Tk.PP) (w : World) (hr0 : ∀ i, (hi : i < l0.length) → ∃ ad, A0 = some ad ∧ w.cell? (ad.add i) = some (Tk.cv l0[i])) (hlen : l0.length ≤ 9223372036854775807)
    (hp : ∀ x, x ∈ l0 → ∀ W, Below w.heap.size w W → Calls Try.prog g (#[Tk.cv x] ++ lb) W fun e w' => e = .returned (.bool (p x)) ∧ Below W.heap.size W w') :
    Calls Try.prog 115 #[.slice A0 l0.length c0, .func (.func g) #[] lb] w fun e w' => e = .returned (.bool (l0.any p)) ∧ Below w.heap.size w w' := by
  rw [← Hlp.fidx_any]
  have hcon := slices_IndexFunc_PP.any p g lb eg A0 c0 l0 w hr0 hlen hp
  have HC : Aside0 _ := ⟨hcon⟩
  clear hcon hr0 hp
  go_enter Try.func115, Try.ntmps115
  go_wp2_with (go_at_call 124; refine HC.out.mono ?_; rintro e w' ⟨rfl, hb⟩)
  go_ret
  exact ⟨rfl, hb⟩

end Go.Proofs.Ytlkbphhmahipdaa.P
namespace Go.Proofs.Ytlkbphhmahipdaa.P
open Go.RowKit Go.Proofs.YtlkbphhmahipdaaW.PrintWords Go.Proofs.YtlkbphhmahipdaaW.PrintLast Go.Proofs.YtlkbphhmahipdaaW.PrintMore
attribute [local go_sem] max2_int min2_int max_two min_two max_three min_three max_four min_four   -- for this text's walks alone
set_option linter.unusedVariables false
set_option linter.unusedSimpArgs false

/-! ### impl_isTrue: function 81, by hand -/
-- IMPORT Derived.Test.YtlkbphhmahipdaaTk
-- IMPORT Derived.BigQuiet
/-- A pair is among some. -/
def impl_isTrue.has_ (xs : List (List Int)) (a b : Int) : Bool := xs.any fun x => decide (rd x 0 = a) && decide (rd x 1 = b)
set_option maxHeartbeats 4000000 in
set_option maxRecDepth 100000 in
theorem impl_isTrue.clo (a b : Int) (B5 B6 lo : Nat) (p : Tk.PP) (W : World) (hinn : Tk.Inn 3 W lo [p]) (h5 : W.cell? ⟨B5, 0, none⟩ = some (.int .i64 a)) (h6 : W.cell? ⟨B6, 0, none⟩ = some (.int .i64 b)) :
    Calls Try.prog 116 #[Tk.cv p, .pointer (some ⟨B5, 0, none⟩), .pointer (some ⟨B6, 0, none⟩)] W fun e w' => e = .returned (.bool (decide (p.2.1 = a) && decide (p.2.2 = b))) ∧ Below W.heap.size W w' := by
  obtain ⟨g, x, y⟩ := p
  obtain ⟨c0, c1⟩ := hinn.cells (g, x, y) (by simp)
  dsimp only at c0 c1 ⊢
  unfold Tk.cv
  clear hinn
  by_cases hx : x = a
  · subst hx
    go_enter Try.func116, Try.ntmps116
    go_wp2_with fail
    go_quiet (fail)
    go_wp2
    go_ret
    refine ⟨?_, ⟨rfl, rfl, rfl, Nat.le_refl _, fun _ _ => rfl⟩⟩
    by_cases h : y = b <;> simp [h]
  · have hxb : (x == a) = false := by simpa using hx
    go_enter Try.func116, Try.ntmps116
    go_wp2_with fail
    go_quiet (fail)
    go_wp2
    go_ret
    exact ⟨by simp [hx], ⟨rfl, rfl, rfl, Nat.le_refl _, fun _ _ => rfl⟩⟩
set_option maxHeartbeats 4000000 in
set_option maxRecDepth 100000 in
theorem impl_isTrue.has (n : Nat) (hn : n ≤ 40) (a b : Int) (talk : ByteArray) (m : Nat) (hm : m ≤ 1000) (hsz : talk.size = 2 * m) (sp : Nat → Bool) (wt : Nat → Int) (ht : ∀ j, j < m → talk.extract (2 * j) (2 * j + 1) = Tk.wh (sp j) ∧ bt talk (2 * (j : Int) + 1) = wt j) (w : World) :
    Calls Try.prog 81 #[.int .i64 (n : Int), .int .i64 a, .int .i64 b, .string talk] w fun e w' => e = .returned (.bool (impl_isTrue.has_ (impl_left.rest n sp wt m) a b)) ∧ Below w.heap.size w w' := by
  have TL := Aside0.mk (fun W => impl_left.has n hn talk m hm hsz sp wt ht W)
  have eg : ∀ args w, (callFunc 116 args).run Try.prog w = .ok (.enter 116 args) w := enters_of Try.func116 (by kernel_rfl) rfl
  have TC : Aside0 (∀ B5 B6 W base lo A c ps, Tk.Has 36 3 W base lo (.slice A ps.length c) ps → W.cell? ⟨B5, 0, none⟩ = some (.int .i64 a) → W.cell? ⟨B6, 0, none⟩ = some (.int .i64 b) → Tk.vals ps = impl_left.rest n sp wt m → Calls Try.prog 115 #[.slice A ps.length c, .func (.func 116) #[] #[.pointer (some ⟨B5, 0, none⟩), .pointer (some ⟨B6, 0, none⟩)]] W fun e w' => e = .returned (.bool (impl_isTrue.has_ (impl_left.rest n sp wt m) a b)) ∧ Aside0 (Below W.heap.size W w')) := ⟨fun B5 B6 W base lo A c ps hH h5 h6 hv => by
    have hcon := slices_ContainsFunc_PP.any (fun p => decide (p.2.1 = a) && decide (p.2.2 = b)) 116 #[.pointer (some ⟨B5, 0, none⟩), .pointer (some ⟨B6, 0, none⟩)] eg A c ps W (fun i hi => by
      obtain ⟨g, cap, e, hc⟩ := hH.at_ i hi
      injection e with e1 e2 e3
      exact ⟨_, e1, by rw [add_plain]; exact hc⟩) (by obtain ⟨_, _, _, _, h⟩ := hH.slice; exact h) (fun x hx W' hW => impl_isTrue.clo a b B5 B6 lo x W' ((hH.inn.below hW).sub (fun p hp => by rw [List.mem_singleton.1 hp]; exact hx)) (pw_cell_below hW h5) (pw_cell_below hW h6))
    have e : ps.any (fun p => decide (p.2.1 = a) && decide (p.2.2 = b)) = impl_isTrue.has_ (impl_left.rest n sp wt m) a b := by
      rw [← hv, impl_isTrue.has_, Tk.vals, List.any_map]
      rfl
    rw [← e]
    exact hcon.mono fun e w' he => ⟨he.1, ⟨he.2⟩⟩⟩
  clear ht hsz eg
  have hb2 : Below w.heap.size w ((w.alloc (.cells #[.int .i64 a] 3)).alloc (.cells #[.int .i64 b] 3)) := below_alloc (below_alloc (Below.refl _ _) _) _
  have HB2 := Aside0.mk hb2
  have HC5 := Aside0.mk (show ((w.alloc (.cells #[.int .i64 a] 3)).alloc (.cells #[.int .i64 b] 3)).cell? ⟨w.heap.size, 0, none⟩ = some (.int .i64 a) ∧ ((w.alloc (.cells #[.int .i64 a] 3)).alloc (.cells #[.int .i64 b] 3)).cell? ⟨w.heap.size + 1, 0, none⟩ = some (.int .i64 b) from ⟨by simp, by simp⟩)
  clear hb2
  go_enter Try.func81, Try.ntmps81
  go_wp2_with (first
    | (go_at_call 76; refine (TL.out _).mono ?_; rintro e w3 ⟨v3, rfl, ps, hH, hv, _, hb⟩; obtain ⟨A3, c3, e3, _⟩ := hH.slice; subst e3; have R3 := Aside0.mk (show _ ∧ _ ∧ _ from ⟨hH, hv, hb⟩); clear hH hv hb)
    | (go_at_call 115; refine (TC.out _ _ _ _ _ _ _ _ R3.out.1 (pw_cell_below R3.out.2.2 HC5.out.1) (pw_cell_below R3.out.2.2 HC5.out.2) R3.out.2.1).mono ?_; rintro e w4 ⟨rfl, h4⟩))
  go_ret
  exact ⟨rfl, below_step (below_step HB2.out R3.out.2.2) h4.out⟩
/-- Who speaks, and what is said, in a talk's statement j. -/
def impl_isTrue.sp (talk : ByteArray) (j : Nat) : Bool := decide (bt talk (2 * (j : Int)) = 115)
def impl_isTrue.wt (talk : ByteArray) (j : Nat) : Int := bt talk (2 * (j : Int) + 1)
/-- What is left behind a talk. -/
def impl_isTrue.lft (n : Int) (talk : ByteArray) : List (List Int) := impl_left.rest n.toNat (impl_isTrue.sp talk) (impl_isTrue.wt talk) (talk.size / 2)
theorem impl_isTrue.parts (talk : ByteArray) (h : impl_isTalk.ok talk = true) : talk.size = 2 * (talk.size / 2) ∧ talk.size / 2 ≤ 12 ∧ (∀ j, j < talk.size / 2 → talk.extract (2 * j) (2 * j + 1) = Tk.wh (impl_isTrue.sp talk j) ∧ bt talk (2 * (j : Int) + 1) = impl_isTrue.wt talk j) ∧ ∀ j, j < talk.size / 2 → impl_isTrue.wt talk j = 45 ∨ impl_isTrue.wt talk j = 43 ∨ impl_isTrue.wt talk j = 33 := by
  unfold impl_isTalk.ok at h
  simp only [Bool.and_eq_true, decide_eq_true_eq] at h
  obtain ⟨⟨h1, h2⟩, h3⟩ := h
  have h4 : ∀ j, j < talk.size / 2 → impl_isTalk.one talk j = true := fun j hj => List.all_eq_true.1 h3 j (List.mem_range.2 hj)
  refine ⟨by omega, by omega, fun j hj => ⟨?_, rfl⟩, fun j hj => ?_⟩
  · have h5 := h4 j hj
    unfold impl_isTalk.one at h5
    simp only [Bool.and_eq_true, Bool.or_eq_true, decide_eq_true_eq] at h5
    have hlt : 2 * j < talk.size := by omega
    rw [impl_isTalk.cut talk (2 * j) hlt]
    have hb : bt talk (2 * (j : Int)) = (talk[2 * j].toNat : Int) := by
      rw [show 2 * (j : Int) = ((2 * j : Nat) : Int) by omega]
      have hq := (bt_at talk ((2 * j : Nat) : Int) (by rw [Int.toNat_natCast]; exact hlt)).symm
      simp only [Int.toNat_natCast] at hq
      exact hq
    unfold impl_isTrue.sp
    rw [hb] at h5 ⊢
    generalize talk[2 * j] = b at h5 ⊢
    rcases h5.1 with e | e
    · obtain rfl : b = 115 := UInt8.toNat_inj.1 (by have : b.toNat = 115 := by omega
                                                    rw [this]; rfl)
      rfl
    · obtain rfl : b = 112 := UInt8.toNat_inj.1 (by have : b.toNat = 112 := by omega
                                                    rw [this]; rfl)
      rfl
  · have h5 := h4 j hj
    unfold impl_isTalk.one at h5
    simp only [Bool.and_eq_true, Bool.or_eq_true, decide_eq_true_eq] at h5
    unfold impl_isTrue.wt
    omega
def impl_isTrue.f (n a b : Int) (talk : ByteArray) : Option Bool := if (0 ≤ n ∧ n ≤ 40) ∧ impl_isTalk.ok talk = true then some (impl_isTrue.has_ (impl_isTrue.lft n talk) a b) else none
theorem impl_isTrue.calls (n a b : Int) (talk : ByteArray) (r : Bool) (w : World) (h : impl_isTrue.f n a b talk = some r) :
    Calls Try.prog 81 #[.int .i64 n, .int .i64 a, .int .i64 b, .string talk] w fun e w' => e = .returned (.bool r) ∧ Below w.heap.size w w' := by
  have hc : (0 ≤ n ∧ n ≤ 40) ∧ impl_isTalk.ok talk = true := by
    unfold impl_isTrue.f at h
    split at h
    · assumption
    · cases h
  obtain rfl : impl_isTrue.has_ (impl_isTrue.lft n talk) a b = r := by unfold impl_isTrue.f at h; rw [if_pos hc] at h; exact Option.some.inj h
  obtain ⟨h1, h2, h3, _⟩ := impl_isTrue.parts talk hc.2
  obtain ⟨m, rfl⟩ := Int.eq_ofNat_of_zero_le hc.1.1
  exact impl_isTrue.has m (by omega) a b talk (talk.size / 2) (by omega) h1 _ _ h3 w

end Go.Proofs.Ytlkbphhmahipdaa.P
namespace Go.Proofs.Ytlkbphhmahipdaa.P
open Go.RowKit Go.Proofs.YtlkbphhmahipdaaW.PrintWords Go.Proofs.YtlkbphhmahipdaaW.PrintLast Go.Proofs.YtlkbphhmahipdaaW.PrintMore
attribute [local go_sem] max2_int min2_int max_two min_two max_three min_three max_four min_four   -- for this text's walks alone
set_option linter.unusedVariables false
set_option linter.unusedSimpArgs false

/-! ### spec_taLeft: function 73, by hand -/
-- IMPORT Derived.Test.YtlkbphhmahipdaaTk
-- IMPORT Derived.Deep.RegionHeld3
-- IMPORT Derived.Test.YtlkbphhmahipdaaTs
set_option maxHeartbeats 4000000 in
set_option maxRecDepth 100000 in
theorem spec_taLeft.has (n : Nat) (hn : n ≤ 40) (talk : ByteArray) (m : Nat) (hm : m ≤ 1000) (hsz : talk.size = 2 * m) (sp : Nat → Bool) (wt : Nat → Int) (ht : ∀ j, j < m → talk.extract (2 * j) (2 * j + 1) = Tk.wh (sp j) ∧ bt talk (2 * (j : Int) + 1) = wt j) (hwt : ∀ j, j < m → wt j = 45 ∨ wt j = 43 ∨ wt j = 33) (w : World) :
    Calls Try.prog 73 #[.int .i64 (n : Int), .string talk] w fun e w' => ∃ v : Value, e = .returned v ∧ ∃ ps : List Tk.PP, Tk.Has 36 3 w' w.heap.size w.heap.size v ps ∧ Tk.vals ps = impl_left.rest n sp wt m ∧ Tk.Ok ps ∧ Below w.heap.size w w' := by
  have hall := spec_taPairs.has n hn w
  have HA := Aside0.mk hall
  have HT := Aside0.mk ht
  have HWT := Aside0.mk hwt
  have HZ := Aside0.mk hsz
  have hszz : (talk.size : Int) = 2 * (m : Int) := by omega
  have HSZ := Aside0.mk hszz
  have hsb : (talk.size : Int) ≤ 2000 := by omega
  clear hall ht hsz hszz hwt
  go_enter Try.func73, Try.ntmps73
  go_wp2_with (go_at_call 94; refine HA.out.mono ?_; rintro e w2 ⟨v, rfl, h⟩; have H := Aside0.mk h; clear h HA)
  go_loopg [5, 6] m (fun gg s5 s6 wr => ∃ (j : Nat) (i : Int), s6 = .int .i64 i ∧ j ≤ m ∧ m - j ≤ gg ∧ Aside0 (i = 2 * (j : Int)) ∧ Aside0 (∃ (b : Nat) (ps : List Tk.PP), w.heap.size ≤ b ∧ Tk.Has 36 3 wr b w.heap.size s5 ps ∧ Tk.vals ps = impl_left.rest n sp wt j ∧ Tk.Ok ps ∧ Below w.heap.size w wr))
  case atStart =>
    refine ⟨0, 0, rfl, Nat.zero_le _, by omega, ⟨rfl⟩, ⟨?_⟩⟩
    obtain ⟨ps, h1, h2, h3⟩ := H.out
    exact ⟨_, ps, Nat.le_refl _, h1, h2, impl_left.ok_all _ n hn ps h2, h3⟩
  case round =>
    obtain ⟨j, i, rfl, hj, hgg, HI, HS⟩ := hrel
    clear H
    by_cases hjm : j < m
    · have hlt : i < (talk.size : Int) := by have := HI.out; have := HSZ.out; omega
      have hi0 : 0 ≤ i := by have := HI.out; have := HSZ.out; omega
      have hi2 : i + 1 < (talk.size : Int) := by have := HI.out; have := HSZ.out; omega
      obtain ⟨i1, hi1⟩ : ∃ i1, i1 = i + 1 := ⟨_, rfl⟩
      have hw1 : IntKind.i64.wrap (i + 1) = i1 := by rw [hi1]; exact IntWalk.i64_in _ (by omega)
      have hle : i ≤ i1 := by omega
      have hi3 : i1 ≤ (talk.size : Int) := by omega
      have hi4 : 0 ≤ i1 := by omega
      have hi5 : i1 < (talk.size : Int) := by omega
      have hx12 := bt_at talk i1
      obtain ⟨b, ps, hb0, hH, hv, hok, hbel⟩ := HS.out
      obtain ⟨e1, e2⟩ := HT.out j hjm
      have ex : talk.extract i.toNat i1.toNat = Tk.wh (sp j) := by
        have h1 : i.toNat = 2 * j := by have := HI.out; have := HSZ.out; omega
        have h2 : i1.toNat = 2 * j + 1 := by have := HI.out; have := HSZ.out; omega
        rw [h1, h2, e1]
      have eb : bt talk i1 = wt j := by rw [hi1, HI.out]; exact e2
      have hbh := fun q => spec_taSay.has (sp j) (wt j) (HWT.out j hjm) b w.heap.size u5 ps (wr.drewN q) (hH.below (pw_below_drewN (Below.refl _ _) q)) hok
      have HBH := Aside0.mk (show ∀ q, Calls Try.prog 77 #[u5, .string (Tk.wh (sp j)), .int .u8 (wt j)] (wr.drewN q) fun e w' => ∃ v', e = .returned v' ∧ Aside0 (∃ (b : Nat) (ps : List Tk.PP), w.heap.size ≤ b ∧ Tk.Has 36 3 w' b w.heap.size v' ps ∧ Tk.vals ps = impl_left.rest n sp wt (j + 1) ∧ Tk.Ok ps ∧ Below w.heap.size w w') from fun q => (hbh q).mono fun e w' he => by
        obtain ⟨v', rfl, h1, h2⟩ := he
        exact ⟨v', rfl, ⟨(wr.drewN q).heap.size, _, hbel.size, h1, by rw [impl_behind.sel_vals, hv]; rfl, impl_behind.sel_ok _ _ _ hok, below_step (below_step hbel (pw_below_drewN (Below.refl _ _) q)) h2⟩⟩)
      have HI1 := Aside0.mk hi1
      clear hbh hH hv hok hbel e1 e2 hb0 hi2 hi1
      rw [ex.symm, eb.symm] at HBH
      clear ex eb
      go_wp2
      go_region_held3 (fun _ => True) (trivial) (first | (go_at_call 77; refine (HBH.out _).mono ?_; rintro e w7 ⟨v7, rfl, H7⟩))
      go_simp
      go_wp2
      go_roundg (m - (j + 1))
      case measure => omega
      case rel => exact ⟨j + 1, i + 2, by go_num, by omega, by omega, ⟨by have := HI.out; omega⟩, H7⟩
    · have hlt : ¬ i < (talk.size : Int) := by have := HI.out; have := HSZ.out; omega
      obtain rfl : j = m := by omega
      go_wp2
      go_ret
      obtain ⟨b, ps, h1, h2, h3⟩ := HS.out
      exact ⟨_, rfl, ps, h2.lower h1 (Nat.le_refl _), h3⟩
def spec_taLeft.f (n : Int) (talk : ByteArray) : Option (List (List Int)) := if (0 ≤ n ∧ n ≤ 40) ∧ impl_isTalk.ok talk = true then some (impl_isTrue.lft n talk) else none
theorem spec_taLeft.calls (n : Int) (talk : ByteArray) (r : List (List Int)) (w : World) (h : spec_taLeft.f n talk = some r) :
    Calls Try.prog 73 #[.int .i64 n, .string talk] w fun e w' => ∃ v0_ : Value, e = .returned v0_ ∧ Kd.S (Kd.slice 3 (Kd.int .i64)) 36 w' w.heap.size (fun _ => True) v0_ r ∧ Below w.heap.size w w' := by
  have hc : (0 ≤ n ∧ n ≤ 40) ∧ impl_isTalk.ok talk = true := by
    unfold spec_taLeft.f at h
    split at h
    · assumption
    · cases h
  unfold spec_taLeft.f at h
  rw [if_pos hc] at h
  obtain rfl := Option.some.inj h
  obtain ⟨h1, h2, h3, h4⟩ := impl_isTrue.parts talk hc.2
  obtain ⟨m, rfl⟩ := Int.eq_ofNat_of_zero_le hc.1.1
  exact (spec_taLeft.has m (by omega) talk (talk.size / 2) (by omega) h1 _ _ h3 h4 w).mono fun e w' he => by
    obtain ⟨v, rfl, ps, h1, h2, h3, h4⟩ := he
    have hS := h1.S (Nat.le_refl _) (Nat.le_refl _)
    rw [h2] at hS
    exact ⟨v, rfl, hS, h4⟩

end Go.Proofs.Ytlkbphhmahipdaa.P
namespace Go.Proofs.Ytlkbphhmahipdaa.P
open Go.RowKit Go.Proofs.YtlkbphhmahipdaaW.PrintWords Go.Proofs.YtlkbphhmahipdaaW.PrintLast Go.Proofs.YtlkbphhmahipdaaW.PrintMore
attribute [local go_sem] max2_int min2_int max_two min_two max_three min_three max_four min_four   -- for this text's walks alone
set_option linter.unusedVariables false
set_option linter.unusedSimpArgs false

/-! ### spec_taHas: function 98 -/
def spec_taHas.l0 : Nat → Int → Int → List (List Int) → Int → Int → Option (Bool)
 | 0, _, _, _, _, _ => none
 | k + 1, x1, x2, x9, x10, x11 => if x11 < x10 then (if 0 ≤ x11 then (if x11 < (x9.length : Int) then (if 0 < ((rd_L1 x9 x11).length : Int) then (if (rd (rd_L1 x9 x11) 0) = x1 then (if 1 < ((rd_L1 x9 x11).length : Int) then (if (rd (rd_L1 x9 x11) 1) = x2 then (some true) else (spec_taHas.l0 k x1 x2 x9 x10 (wrap64 (x11 + 1)))) else (none)) else (spec_taHas.l0 k x1 x2 x9 x10 (wrap64 (x11 + 1)))) else (none)) else (none)) else (none)) else (some false)
def spec_taHas.f (k : Nat) (l0 : List (List Int)) (a1 : Int) (a2 : Int) : Option (Bool) := spec_taHas.l0 k a1 a2 l0 (l0.length : Int) 0
set_option maxHeartbeats 8000000 in
set_option maxRecDepth 100000 in
theorem spec_taHas.calls (k : Nat) (A0 : Option Addr) (c0 : Nat) (l0 : List (List Int)) (a1 : Int) (a2 : Int) (r : Bool) (w : World) (hr0 : Kd.C (Kd.slice 3 (Kd.int .i64)) w A0 l0.length l0) (hc0 : l0.length ≤ c0) (h : spec_taHas.f k l0 a1 a2 = some r) :
  Calls Try.prog 98 #[.slice A0 l0.length c0, .int .i64 a1, .int .i64 a2] w fun e w' => e = .returned (.bool r) ∧ Drawn0 w w' := by
 have HR0 := Aside0.mk hr0
 have HC0 := Aside0.mk hc0
 clear hr0 hc0
 have H : (spec_taHas.l0 k a1 a2 l0 (l0.length : Int) 0) = some r := h
 clear h
 have H' := Aside0.mk H
 clear H
 go_enter Try.func98, Try.ntmps98
 go_wp2
 go_loopg [11] k (fun kq v11 w' => ∃ (x11_1 : Int), v11 = .int .i64 x11_1 ∧ Aside0 (spec_taHas.l0 kq a1 a2 l0 (l0.length : Int) x11_1 = some r) ∧ Aside0 (kq ≤ k) ∧ Drawn0 w w')
 case atStart => exact ⟨(0), (by first | rfl | (simp; done) | (simp [*]; done)), H', ⟨Nat.le_refl _⟩, by repeat (first | exact Drawn0.refl _ | apply Drawn0.step)⟩
 case round =>
  clear H'
  try clear p2
  obtain ⟨x11_1, rfl, HA, HK1, ⟨m1, rfl⟩⟩ := hrel
  cases gk with
  | zero => exact absurd HA.out (by simp [spec_taHas.l0])
  | succ k1 =>
   have H := HA.out
   clear HA
   simp only [spec_taHas.l0] at H
   by_cases c4 : x11_1 < (l0.length : Int)
   ·rw [if_pos c4] at H
    have c4b0 : decide (x11_1 < (l0.length : Int)) = true := decide_eq_true c4
    clear c4
    by_cases c5 : 0 ≤ x11_1
    ·rw [if_pos c5] at H
     have c5b0 : decide (0 ≤ x11_1) = true := decide_eq_true c5
     clear c5
     by_cases c6 : x11_1 < (l0.length : Int)
     ·rw [if_pos c6] at H
      have c6b0 : decide (x11_1 < (l0.length : Int)) = true := decide_eq_true c6
      clear c6
      by_cases c7 : 0 < ((rd_L1 l0 x11_1).length : Int)
      ·rw [if_pos c7] at H
       have c7b0 : decide (0 < ((rd_L1 l0 x11_1).length : Int)) = true := decide_eq_true c7
       have c7b1 : decide (0 < (rd_L1 l0 x11_1).length) = true := decide_eq_true (by omega)
       clear c7
       by_cases c8 : (rd (rd_L1 l0 x11_1) 0) = a1
       ·rw [if_pos c8] at H
        have c8b0 : ((rd (rd_L1 l0 x11_1) 0) == a1) = true := beq_iff_eq.mpr c8
        have c8b1 : ((rd (rd_L1 l0 x11_1) 0) != a1) = false := bne_eq_false_iff_eq.mpr c8
        clear c8
        by_cases c9 : 1 < ((rd_L1 l0 x11_1).length : Int)
        ·rw [if_pos c9] at H
         have c9b0 : decide (1 < ((rd_L1 l0 x11_1).length : Int)) = true := decide_eq_true c9
         have c9b1 : decide (1 < (rd_L1 l0 x11_1).length) = true := decide_eq_true (by omega)
         clear c9
         by_cases c10 : (rd (rd_L1 l0 x11_1) 1) = a2
         ·rw [if_pos c10] at H
          have c10b0 : ((rd (rd_L1 l0 x11_1) 1) == a2) = true := beq_iff_eq.mpr c10
          have c10b1 : ((rd (rd_L1 l0 x11_1) 1) != a2) = false := bne_eq_false_iff_eq.mpr c10
          clear c10
          obtain rfl := Option.some.inj H
          have p117 : 0 ≤ (x11_1 : Int) := of_decide_eq_true (by first | (with_reducible assumption) | assumption)
          have q117 : x11_1 < (l0.length : Int) := of_decide_eq_true (by first | (with_reducible assumption) | assumption)
          obtain ⟨ad117, A117_0, c117_0, e117, hx117_0, hl117_0, hi117_0⟩ := at_L1 HR0.out x11_1 p117 q117
          cases e117
          have HR117_0 := Aside0.mk hi117_0
          have HC117_0 := Aside0.mk hl117_0
          clear hi117_0 hl117_0
          replace p117 := eq_true p117
          replace q117 := eq_true q117
          have p118 : 0 ≤ (0 : Int) := (by omega)
          have q118 : 0 < ((rd_L1 l0 x11_1).length : Int) := of_decide_eq_true (by first | (with_reducible assumption) | assumption)
          obtain ⟨ad118, e118, hx118_0⟩ := Kd.at_int HR117_0.out 0 p118 q118
          cases e118
          have qi118 : (0 < (rd_L1 l0 x11_1).length) = True := eq_true (by omega)
          (try rw [show ((0 : Int)).toNat = 0 from rfl] at hx118_0)
          (try rw [Addr.add_zero'] at hx118_0)
          replace p118 := eq_true p118
          replace q118 := eq_true q118
          have p119 : 0 ≤ (1 : Int) := (by omega)
          have q119 : 1 < ((rd_L1 l0 x11_1).length : Int) := of_decide_eq_true (by first | (with_reducible assumption) | assumption)
          obtain ⟨ad119, e119, hx119_0⟩ := Kd.at_int HR117_0.out 1 p119 q119
          obtain rfl : ad118 = ad119 := (by injection e119)
          (try simp only [show (1 : Int).toNat = 1 from rfl, Nat.reduceMul, Nat.reduceEqDiff, Go.Addr.add, ↓reduceIte] at hx119_0)
          have qi119 : (1 < (rd_L1 l0 x11_1).length) = True := eq_true (by omega)
          (try rw [show ((1 : Int)).toNat = 1 from rfl] at hx119_0)
          replace p119 := eq_true p119
          replace q119 := eq_true q119
          go_wp2
          go_ret
          exact ⟨by first | rfl | (simp; done) | (simp [*]; done), by repeat (first | exact Drawn0.refl _ | apply Drawn0.step)⟩
         ·rw [if_neg c10] at H
          have c10b0 : ((rd (rd_L1 l0 x11_1) 1) == a2) = false := beq_eq_false_iff_ne.mpr c10
          have c10b1 : ((rd (rd_L1 l0 x11_1) 1) != a2) = true := bne_iff_ne.mpr c10
          have H' := Aside0.mk H
          clear H
          have p117 : 0 ≤ (x11_1 : Int) := of_decide_eq_true (by first | (with_reducible assumption) | assumption)
          have q117 : x11_1 < (l0.length : Int) := of_decide_eq_true (by first | (with_reducible assumption) | assumption)
          obtain ⟨ad117, A117_0, c117_0, e117, hx117_0, hl117_0, hi117_0⟩ := at_L1 HR0.out x11_1 p117 q117
          cases e117
          have HR117_0 := Aside0.mk hi117_0
          have HC117_0 := Aside0.mk hl117_0
          clear hi117_0 hl117_0
          replace p117 := eq_true p117
          replace q117 := eq_true q117
          have p118 : 0 ≤ (0 : Int) := (by omega)
          have q118 : 0 < ((rd_L1 l0 x11_1).length : Int) := of_decide_eq_true (by first | (with_reducible assumption) | assumption)
          obtain ⟨ad118, e118, hx118_0⟩ := Kd.at_int HR117_0.out 0 p118 q118
          cases e118
          have qi118 : (0 < (rd_L1 l0 x11_1).length) = True := eq_true (by omega)
          (try rw [show ((0 : Int)).toNat = 0 from rfl] at hx118_0)
          (try rw [Addr.add_zero'] at hx118_0)
          replace p118 := eq_true p118
          replace q118 := eq_true q118
          have p119 : 0 ≤ (1 : Int) := (by omega)
          have q119 : 1 < ((rd_L1 l0 x11_1).length : Int) := of_decide_eq_true (by first | (with_reducible assumption) | assumption)
          obtain ⟨ad119, e119, hx119_0⟩ := Kd.at_int HR117_0.out 1 p119 q119
          obtain rfl : ad118 = ad119 := (by injection e119)
          (try simp only [show (1 : Int).toNat = 1 from rfl, Nat.reduceMul, Nat.reduceEqDiff, Go.Addr.add, ↓reduceIte] at hx119_0)
          have qi119 : (1 < (rd_L1 l0 x11_1).length) = True := eq_true (by omega)
          (try rw [show ((1 : Int)).toNat = 1 from rfl] at hx119_0)
          replace p119 := eq_true p119
          replace q119 := eq_true q119
          go_wp2
          go_roundg k1
          case measure => have := HK1.out; omega
          case rel => exact ⟨(wrap64 (x11_1 + 1)), (by first | rfl | (simp; done) | (simp [*]; done)), H', ⟨by have := HK1.out; omega⟩, by repeat (first | exact Drawn0.refl _ | apply Drawn0.step)⟩
        ·rw [if_neg c9] at H
         exact absurd H (by simp)
       ·rw [if_neg c8] at H
        have c8b0 : ((rd (rd_L1 l0 x11_1) 0) == a1) = false := beq_eq_false_iff_ne.mpr c8
        have c8b1 : ((rd (rd_L1 l0 x11_1) 0) != a1) = true := bne_iff_ne.mpr c8
        have H' := Aside0.mk H
        clear H
        have p117 : 0 ≤ (x11_1 : Int) := of_decide_eq_true (by first | (with_reducible assumption) | assumption)
        have q117 : x11_1 < (l0.length : Int) := of_decide_eq_true (by first | (with_reducible assumption) | assumption)
        obtain ⟨ad117, A117_0, c117_0, e117, hx117_0, hl117_0, hi117_0⟩ := at_L1 HR0.out x11_1 p117 q117
        cases e117
        have HR117_0 := Aside0.mk hi117_0
        have HC117_0 := Aside0.mk hl117_0
        clear hi117_0 hl117_0
        replace p117 := eq_true p117
        replace q117 := eq_true q117
        have p118 : 0 ≤ (0 : Int) := (by omega)
        have q118 : 0 < ((rd_L1 l0 x11_1).length : Int) := of_decide_eq_true (by first | (with_reducible assumption) | assumption)
        obtain ⟨ad118, e118, hx118_0⟩ := Kd.at_int HR117_0.out 0 p118 q118
        cases e118
        have qi118 : (0 < (rd_L1 l0 x11_1).length) = True := eq_true (by omega)
        (try rw [show ((0 : Int)).toNat = 0 from rfl] at hx118_0)
        (try rw [Addr.add_zero'] at hx118_0)
        replace p118 := eq_true p118
        replace q118 := eq_true q118
        go_wp2
        go_roundg k1
        case measure => have := HK1.out; omega
        case rel => exact ⟨(wrap64 (x11_1 + 1)), (by first | rfl | (simp; done) | (simp [*]; done)), H', ⟨by have := HK1.out; omega⟩, by repeat (first | exact Drawn0.refl _ | apply Drawn0.step)⟩
      ·rw [if_neg c7] at H
       exact absurd H (by simp)
     ·rw [if_neg c6] at H
      exact absurd H (by simp)
    ·rw [if_neg c5] at H
     exact absurd H (by simp)
   ·rw [if_neg c4] at H
    have c4b0 : decide (x11_1 < (l0.length : Int)) = false := decide_eq_false c4
    clear c4
    obtain rfl := Option.some.inj H
    go_wp2
    go_ret
    exact ⟨by first | rfl | (simp; done) | (simp [*]; done), by repeat (first | exact Drawn0.refl _ | apply Drawn0.step)⟩

/-! ### spec_l1Most: function 106 -/
def spec_l1Most.f (a0 : Int) (a1 : Int) : Option (Int) := if a0 > a1 then (some a0) else (some a1)
set_option maxHeartbeats 8000000 in
set_option maxRecDepth 100000 in
theorem spec_l1Most.calls (a0 : Int) (a1 : Int) (r : Int) (w : World) (h : spec_l1Most.f a0 a1 = some r) :
  Calls Try.prog 106 #[.int .i64 a0, .int .i64 a1] w fun e w' => e = .returned (.int .i64 r) ∧ Drawn0 w w' := by
 have H : (if a0 > a1 then (some a0) else (some a1)) = some r := h
 clear h
 by_cases c3 : a0 > a1
 ·rw [if_pos c3] at H
  have c3b0 : decide (a1 < a0) = true := decide_eq_true c3
  clear c3
  obtain rfl := Option.some.inj H
  go_enter Try.func106, Try.ntmps106
  go_wp2
  go_ret
  exact ⟨by first | rfl | (simp; done) | (simp [*]; done), by repeat (first | exact Drawn0.refl _ | apply Drawn0.step)⟩
 ·rw [if_neg c3] at H
  have c3b0 : decide (a1 < a0) = false := decide_eq_false c3
  clear c3
  obtain rfl := Option.some.inj H
  go_enter Try.func106, Try.ntmps106
  go_wp2
  go_ret
  exact ⟨by first | rfl | (simp; done) | (simp [*]; done), by repeat (first | exact Drawn0.refl _ | apply Drawn0.step)⟩

end Go.Proofs.Ytlkbphhmahipdaa.P
namespace Go.Proofs.Ytlkbphhmahipdaa.P
open Go.RowKit Go.Proofs.YtlkbphhmahipdaaW.PrintWords Go.Proofs.YtlkbphhmahipdaaW.PrintLast Go.Proofs.YtlkbphhmahipdaaW.PrintMore
attribute [local go_sem] max2_int min2_int max_two min_two max_three min_three max_four min_four   -- for this text's walks alone
set_option linter.unusedVariables false
set_option linter.unusedSimpArgs false

/-! ### spec_taLimits: function 71, by hand -/
-- IMPORT Derived.Test.YtlkbphhmahipdaaTk
theorem spec_taHas.l0_told (xs : List (List Int)) (hn : xs.length ≤ 100000) (h2 : ∀ x ∈ xs, x.length = 2) (a b : Int) (d : Nat) : ∀ i, i ≤ xs.length → xs.length - i ≤ d → spec_taHas.l0 (d + 1) a b xs (xs.length : Int) (i : Int) = some (impl_isTrue.has_ (xs.drop i) a b) := by
  induction d with
  | zero =>
    intro i h1 hd
    obtain rfl : i = xs.length := by omega
    rw [spec_taHas.l0, if_neg (by omega), List.drop_length]
    rfl
  | succ d ih =>
    intro i h1 hd
    by_cases hi : i < xs.length
    · have hg : xs.getD (i : Int).toNat [] = xs[i] := by simp [List.getD_eq_getElem?_getD, hi]
      have hl := h2 xs[i] (List.getElem_mem hi)
      have e1 : wrap64 ((i : Int) + 1) = ((i + 1 : Nat) : Int) := by unfold wrap64; omega
      have ihn := ih (i + 1) (by omega) (by omega)
      have hd' : xs.drop i = xs[i] :: xs.drop (i + 1) := List.drop_eq_getElem_cons hi
      rw [hd']
      show spec_taHas.l0 (d + 1 + 1) a b xs (xs.length : Int) (i : Int) = some (((decide (rd xs[i] 0 = a) && decide (rd xs[i] 1 = b)) || impl_isTrue.has_ (xs.drop (i + 1)) a b))
      rw [spec_taHas.l0, if_pos (by omega), if_pos (by omega), if_pos (by omega)]
      show (if 0 < (((xs.getD (i : Int).toNat []).length : Nat) : Int) then (if rd (xs.getD (i : Int).toNat []) 0 = a then (if 1 < (((xs.getD (i : Int).toNat []).length : Nat) : Int) then (if rd (xs.getD (i : Int).toNat []) 1 = b then some true else spec_taHas.l0 (d + 1) a b xs (xs.length : Int) (wrap64 ((i : Int) + 1))) else none) else spec_taHas.l0 (d + 1) a b xs (xs.length : Int) (wrap64 ((i : Int) + 1))) else none) = _
      rw [hg, hl, e1, if_pos (by omega), ihn]
      by_cases ha : rd xs[i] 0 = a
      · rw [if_pos ha, if_pos (by omega)]
        by_cases hb : rd xs[i] 1 = b
        · rw [if_pos hb]; simp [ha, hb]
        · rw [if_neg hb]; simp [hb]
      · rw [if_neg ha]; simp [ha]
    · obtain rfl : i = xs.length := by omega
      rw [spec_taHas.l0, if_neg (by omega), List.drop_length]
      rfl
theorem spec_taHas.told (xs : List (List Int)) (hn : xs.length ≤ 100000) (h2 : ∀ x ∈ xs, x.length = 2) (a b : Int) : spec_taHas.f (xs.length + 1) xs a b = some (impl_isTrue.has_ xs a b) := by
  unfold spec_taHas.f
  exact spec_taHas.l0_told xs hn h2 a b xs.length 0 (Nat.zero_le _) (Nat.le_refl _)
/-- The limits below m of which the talk is true of the pair. -/
def spec_taLimits.lims (a b : Int) (talk : ByteArray) (m : Nat) : List Int := ((List.range m).filter fun n : Nat => (decide (2 ≤ n) && decide (b ≤ (n : Int))) && impl_isTrue.has_ (impl_isTrue.lft (n : Int) talk) a b).map fun n : Nat => (n : Int)
theorem spec_taLimits.lims_yes (a b : Int) (talk : ByteArray) (m : Nat) (h2 : 2 ≤ m) (hb : b ≤ (m : Int)) (h : impl_isTrue.has_ (impl_isTrue.lft (m : Int) talk) a b = true) : spec_taLimits.lims a b talk (m + 1) = spec_taLimits.lims a b talk m ++ [(m : Int)] := by simp [spec_taLimits.lims, List.range_succ, h2, hb, h]
theorem spec_taLimits.lims_no (a b : Int) (talk : ByteArray) (m : Nat) (h : impl_isTrue.has_ (impl_isTrue.lft (m : Int) talk) a b = false) : spec_taLimits.lims a b talk (m + 1) = spec_taLimits.lims a b talk m := by simp [spec_taLimits.lims, List.range_succ, h]
theorem spec_taLimits.lims_nil (a b : Int) (talk : ByteArray) (m : Nat) (h : (m : Int) ≤ max 2 b) : spec_taLimits.lims a b talk m = [] := by
  unfold spec_taLimits.lims
  rw [List.map_eq_nil_iff, List.filter_eq_nil_iff]
  intro n hn
  have := List.mem_range.1 hn
  simp only [Bool.and_eq_true, decide_eq_true_eq]
  rintro ⟨⟨h1, h2⟩, _⟩
  omega
theorem spec_taLimits.lims_len (a b : Int) (talk : ByteArray) (m : Nat) : (spec_taLimits.lims a b talk m).length ≤ m := by
  unfold spec_taLimits.lims
  rw [List.length_map]
  exact Nat.le_trans (List.length_filter_le _ _) (by simp)
def spec_taLimits.f (a b : Int) (talk : ByteArray) : Option (List Int) := if (1 ≤ b ∧ b ≤ 40) ∧ impl_isTalk.ok talk = true then some (spec_taLimits.lims a b talk 41) else none
theorem spec_l1Most.told (b : Int) : spec_l1Most.f 2 b = some (max 2 b) := by
  unfold spec_l1Most.f
  first | rfl | (simp only [Option.some.injEq]; omega) | (by_cases h : (2 : Int) < b <;> simp [h] <;> omega) | (by_cases h : (2 : Int) > b <;> simp [h] <;> omega)
set_option maxHeartbeats 4000000 in
set_option maxRecDepth 100000 in
theorem spec_taLimits.calls (a b : Int) (talk : ByteArray) (r : List Int) (w : World) (h : spec_taLimits.f a b talk = some r) :
    Calls Try.prog 71 #[.int .i64 a, .int .i64 b, .string talk] w fun e w' => ∃ v0_ : Value, e = .returned v0_ ∧ Kd.R (Kd.int .i64) 3 w' w.heap.size (fun _ => True) v0_ r ∧ Below w.heap.size w w' := by
  have hc : (1 ≤ b ∧ b ≤ 40) ∧ impl_isTalk.ok talk = true := by
    unfold spec_taLimits.f at h
    split at h
    · assumption
    · cases h
  obtain rfl : spec_taLimits.lims a b talk 41 = r := by unfold spec_taLimits.f at h; rw [if_pos hc] at h; exact Option.some.inj h
  obtain ⟨h1, h2, h3, h4⟩ := impl_isTrue.parts talk hc.2
  have TM := Aside0.mk (fun W => spec_l1Most.calls 2 b (max 2 b) W (spec_l1Most.told b))
  have TL : Aside0 (∀ q : Nat, q ≤ 40 → ∀ W, Calls Try.prog 73 #[.int .i64 (q : Int), .string talk] W fun e w' => ∃ A c n, e = .returned (.slice A n c) ∧ Aside0 (Below W.heap.size W w' ∧ ∀ W', Below w'.heap.size w' W' → Calls Try.prog 98 #[.slice A n c, .int .i64 a, .int .i64 b] W' fun e w'' => e = .returned (.bool (impl_isTrue.has_ (impl_isTrue.lft (q : Int) talk) a b)) ∧ Below W'.heap.size W' w'')) := ⟨fun q hq W =>
    (spec_taLeft.has q hq talk (talk.size / 2) (by omega) h1 _ _ h3 h4 W).mono fun e w' he => by
      obtain ⟨v, rfl, ps, hH, hv, hok, hb⟩ := he
      obtain ⟨A, c, rfl, hcap, _⟩ := hH.slice
      refine ⟨A, c, _, rfl, ⟨hb, fun W' hW => ?_⟩⟩
      have hlen := Tk.vals_len ps
      have h5 := spec_taHas.calls ((Tk.vals ps).length + 1) A c (Tk.vals ps) a b _ W' (hH.below hW).C (by rw [hlen]; exact hcap) (spec_taHas.told (Tk.vals ps) (by rw [hlen]; have := hok.1; omega) (fun x hx => by obtain ⟨p, _, rfl⟩ := List.mem_map.1 hx; rfl) a b)
      rw [hlen, hv] at h5
      exact h5.mono fun e w'' h => ⟨h.1, h.2.below⟩⟩
  obtain ⟨⟨hb1, hb2⟩, _⟩ := hc
  clear h h3 h4
  obtain ⟨q0, hq0⟩ : ∃ q0 : Nat, max 2 b = (q0 : Int) := ⟨(max 2 b).toNat, by omega⟩
  have hqb : 2 ≤ q0 ∧ b ≤ (q0 : Int) ∧ q0 ≤ 40 := by omega
  have HQB := Aside0.mk hqb
  have HNIL := Aside0.mk (spec_taLimits.lims_nil a b talk q0 (by omega))
  rw [hq0] at TM
  clear hq0 hqb hb1 hb2
  go_enter Try.func71, Try.ntmps71
  go_wp2_with (go_at_call 106; refine (TM.out _).mono ?_; rintro e w2 ⟨rfl, hd⟩; have HD := Aside0.mk hd.below; clear hd)
  go_loopg [7, 8] 41 (fun gg s7 s8 wr => ∃ q : Nat, s8 = .int .i64 (q : Int) ∧ q ≤ 41 ∧ 41 - q ≤ gg ∧ Aside0 (2 ≤ q ∧ b ≤ (q : Int)) ∧ Aside0 (Kd.R (Kd.int .i64) 3 wr w.heap.size (fun _ => True) s7 (spec_taLimits.lims a b talk q) ∧ Below w.heap.size w wr))
  case atStart => exact ⟨q0, rfl, by have := HQB.out; omega, by omega, ⟨HQB.out.1, HQB.out.2.1⟩, ⟨by rw [HNIL.out]; exact Kd.R_nil _ _ _ _ _, HD.out⟩⟩
  case round =>
    obtain ⟨q, rfl, hq, hgg, HQ, HS⟩ := hrel
    by_cases hq40 : q ≤ 40
    · have hqz : (q : Int) ≤ 40 := by omega
      have hq0 : 0 ≤ (q : Int) := by omega
      have T1 := Aside0.mk (TL.out q hq40 wr)
      have hlen := spec_taLimits.lims_len a b talk q
      cases hb : impl_isTrue.has_ (impl_isTrue.lft (q : Int) talk) a b with
      | false =>
        have HL := Aside0.mk (spec_taLimits.lims_no a b talk q hb)
        rw [hb] at T1
        clear hb
        go_wp2_with (first
          | (go_at_call 73; refine T1.out.mono ?_; rintro e w3 ⟨A3, c3, n3, rfl, h3⟩; clear T1)
          | (go_at_call 98; refine (h3.out.2 _ (Below.refl _ _)).mono ?_; rintro e w4 ⟨rfl, hb4⟩; have HB4 := Aside0.mk hb4; clear hb4))
        go_roundg (41 - (q + 1))
        case measure => omega
        case rel => exact ⟨q + 1, by go_num, by omega, by omega, ⟨by have := HQ.out; omega, by have := HQ.out; omega⟩, ⟨by rw [HL.out]; exact Kd.R_below (Kd.R_below HS.out.1 h3.out.1) HB4.out, below_step (below_step HS.out.2 h3.out.1) HB4.out⟩⟩
      | true =>
        have HL := Aside0.mk (spec_taLimits.lims_yes a b talk q HQ.out.1 HQ.out.2 hb)
        rw [hb] at T1
        clear hb
        generalize spec_taLimits.lims a b talk q = xs at HS HL hlen
        go_wp2_with (first
          | (go_at_call 73; refine T1.out.mono ?_; rintro e w3 ⟨A3, c3, n3, rfl, h3⟩; clear T1)
          | (go_at_call 98; refine (h3.out.2 _ (Below.refl _ _)).mono ?_; rintro e w4 ⟨rfl, hb4⟩; have HS4 := Aside0.mk (show _ ∧ _ from ⟨Kd.R_below (Kd.R_below HS.out.1 h3.out.1) hb4, below_step (below_step HS.out.2 h3.out.1) hb4⟩); clear hb4)
          | ((with_reducible refine gate_builtin (b := .append) (xs := #[.tmp 21, .tmp 23]) rfl ?_); at_builtin; refine Kd.R_append (Kd.int .i64) (w0 := w) w.heap.size rfl (.tmp 21) (.tmp 23) 36 3 (.int .i64 0) 8 rfl Try.underlying36 (by kernel_rfl) rfl (by decide) (by omega) u7 xs (q : Int) [.int .i64 (q : Int)] (fun _ => True) (fun _ => False) rfl (by first | (go_simp; done) | (go_simp; rfl)) rfl (fun _ hk => hk.elim) (fun _ _ => trivial) HS4.out.1 HS4.out.2 HS4.out.2.size (by omega) ?_; intro v9 w9 ho hb hg hat; have HO9 := Aside0.mk (show _ ∧ _ from ⟨ho, hb⟩); clear ho hb hg hat))
        go_roundg (41 - (q + 1))
        case measure => omega
        case rel => exact ⟨q + 1, by go_num, by omega, by omega, ⟨by have := HQ.out; omega, by have := HQ.out; omega⟩, ⟨by rw [HL.out]; exact HO9.out.1, HO9.out.2⟩⟩
    · obtain rfl : q = 41 := by omega
      go_wp2
      go_ret
      exact ⟨_, rfl, HS.out.1, HS.out.2⟩

end Go.Proofs.Ytlkbphhmahipdaa.P
namespace Go.Proofs.Ytlkbphhmahipdaa.P
open Go.RowKit Go.Proofs.YtlkbphhmahipdaaW.PrintWords Go.Proofs.YtlkbphhmahipdaaW.PrintLast Go.Proofs.YtlkbphhmahipdaaW.PrintMore
attribute [local go_sem] max2_int min2_int max_two min_two max_three min_three max_four min_four   -- for this text's walks alone
set_option linter.unusedVariables false
set_option linter.unusedSimpArgs false

/-! ### spec_LeastLimit: function 11 -/
def spec_LeastLimit.j0 : Nat → Int → Int → ByteArray → Bool → Option (Int × Bool)
 | 0, _, _, _, _ => none
 | k + 1, x0, x1, x2, x17 => if x17 = true then (some (0, false)) else ((spec_taLimits.f x0 x1 x2).bind fun t122 => (if (t122.length : Int) = 0 then (some (0, false)) else (if 0 < (t122.length : Int) then (some (rd t122 0, true)) else (none))))
def spec_LeastLimit.f (k : Nat) (a0 : Int) (a1 : Int) (a2 : ByteArray) : Option (Int × Bool) := (spec_taPair.f 40 a0 a1).bind fun t120 => (if t120 = true then ((spec_taTalk.f k a2).bind fun t121 => (spec_LeastLimit.j0 k a0 a1 a2 (!t121))) else (spec_LeastLimit.j0 k a0 a1 a2 true))
set_option maxHeartbeats 8000000 in
set_option maxRecDepth 100000 in
theorem spec_LeastLimit.calls (k : Nat) (a0 : Int) (a1 : Int) (a2 : ByteArray) (r1 : Int) (r2 : Bool) (w : World) (h : spec_LeastLimit.f k a0 a1 a2 = some (r1, r2)) :
  Calls Try.prog 11 #[.int .i64 a0, .int .i64 a1, .string a2] w fun e w' => e = .returned (.tuple #[.int .i64 r1, .bool r2]) ∧ Below w.heap.size w w' := by
 have HB := Aside0.mk (Below.refl w.heap.size w)
 have H : ((spec_taPair.f 40 a0 a1).bind fun t120 => (if t120 = true then ((spec_taTalk.f k a2).bind fun t121 => (spec_LeastLimit.j0 k a0 a1 a2 (!t121))) else (spec_LeastLimit.j0 k a0 a1 a2 true))) = some (r1, r2) := h
 clear h
 have HC4 := Aside0.mk H
 clear H
 go_enter Try.func11, Try.ntmps11
 go_upto_region 1 with (fail)
 go_cut [17] (fun v17 wc => ∃ (kq : Nat) (x17_3 : Bool), v17 = .bool x17_3 ∧ Aside0 (spec_LeastLimit.j0 kq a0 a1 a2 x17_3 = some (r1, r2)) ∧ Aside0 (kq ≤ k) ∧ Aside0 (Below w.heap.size w wc))
 case first =>
  have H := HC4.out
  clear HC4
  replace H := Option.bind_eq_some_iff.mp H
  obtain ⟨t120, A50, H⟩ := H
  replace H : (if t120 = true then ((spec_taTalk.f k a2).bind fun t121 => (spec_LeastLimit.j0 k a0 a1 a2 (!t121))) else (spec_LeastLimit.j0 k a0 a1 a2 true)) = some (r1, r2) := H
  have A5 := Aside0.mk A50
  clear A50
  by_cases c6 : t120 = true
  ·subst c6
   have H1 : ((spec_taTalk.f k a2).bind fun t121 => (spec_LeastLimit.j0 k a0 a1 a2 (!t121))) = some (r1, r2) := by rw [if_pos rfl] at H; exact H
   clear H
   have H := H1
   clear H1
   replace H := Option.bind_eq_some_iff.mp H
   obtain ⟨t121, A70, H⟩ := H
   replace H : (spec_LeastLimit.j0 k a0 a1 a2 (!t121)) = some (r1, r2) := H
   have A7 := Aside0.mk A70
   clear A70
   have H' := Aside0.mk H
   clear H
   go_wp2_with (first | ((with_reducible refine gate_callee (f := 69) rfl ?_); refine goesL_ (some 11) rfl rfl Try.func69 (by kernel_rfl) rfl #[.int .i64 40, .int .i64 a0, .int .i64 a1] rfl (by (try simp only [List.map_toArray, List.map_cons, List.map_nil]); first | done | rfl | (simp only [List.length_drop, List.length_take]; rfl)) ?_; (with_reducible refine (spec_taPair.calls 40 a0 a1 true _ A5.out).mono ?_); rintro e w' ⟨rfl, ⟨nd, rfl⟩⟩; refine ⟨_, rfl, ?_⟩) | (go_at_call 70; (with_reducible refine (spec_taTalk.calls k a2 t121 _ A7.out).mono ?_); rintro e w' ⟨rfl, ⟨nd, rfl⟩⟩))
   go_meet
   case rel => exact ⟨_, (!t121), (by first | rfl | (simp; done) | (simp [*]; done)), H', ⟨by first | omega | exact Nat.le_refl _⟩, ⟨by repeat (first | (with_reducible first | exact HB.out | apply below_alloc | apply pw_below_drewN | apply below_drew1) | exact HB.out)⟩⟩
  ·replace c6 := Bool.eq_false_iff.mpr c6
   subst c6
   have H1 : (spec_LeastLimit.j0 k a0 a1 a2 true) = some (r1, r2) := by rw [if_neg (show ¬ (false = true) by decide)] at H; exact H
   clear H
   have H := H1
   clear H1
   have H' := Aside0.mk H
   clear H
   go_wp2_with (first | ((with_reducible refine gate_callee (f := 69) rfl ?_); refine goesL_ (some 11) rfl rfl Try.func69 (by kernel_rfl) rfl #[.int .i64 40, .int .i64 a0, .int .i64 a1] rfl (by (try simp only [List.map_toArray, List.map_cons, List.map_nil]); first | done | rfl | (simp only [List.length_drop, List.length_take]; rfl)) ?_; (with_reducible refine (spec_taPair.calls 40 a0 a1 false _ A5.out).mono ?_); rintro e w' ⟨rfl, ⟨nd, rfl⟩⟩; refine ⟨_, rfl, ?_⟩))
   go_meet
   case rel => exact ⟨_, (true), (by first | rfl | (simp; done) | (simp [*]; done)), H', ⟨by first | omega | exact Nat.le_refl _⟩, ⟨by repeat (first | (with_reducible first | exact HB.out | apply below_alloc | apply pw_below_drewN | apply below_drew1) | exact HB.out)⟩⟩
 case rest =>
  clear HC4
  try clear c1
  try clear p2
  try clear c6
  obtain ⟨kq, x17_3, rfl, HA, HJ3, HB⟩ := hcut
  cases kq with
  | zero => exact absurd HA.out (by simp [spec_LeastLimit.j0])
  | succ kj3 =>
   have H := HA.out
   clear HA
   simp only [spec_LeastLimit.j0] at H
   by_cases c8 : x17_3 = true
   ·subst c8
    have H1 : (some (0, false)) = some (r1, r2) := by rw [if_pos rfl] at H; exact H
    clear H
    have H := H1
    clear H1
    simp only [Option.some.injEq, Prod.mk.injEq] at H
    obtain ⟨rfl, rfl⟩ := H
    go_wp2
    go_ret2
    exact ⟨by first | rfl | (simp [errW_none, errW_some] <;> rfl) | (simp [*, errW_none, errW_some] <;> rfl), by repeat (first | (with_reducible first | exact HB.out | apply below_alloc | apply pw_below_drewN | apply below_drew1) | exact HB.out)⟩
   ·replace c8 := Bool.eq_false_iff.mpr c8
    subst c8
    have H1 : ((spec_taLimits.f a0 a1 a2).bind fun t122 => (if (t122.length : Int) = 0 then (some (0, false)) else (if 0 < (t122.length : Int) then (some (rd t122 0, true)) else (none)))) = some (r1, r2) := by rw [if_neg (show ¬ (false = true) by decide)] at H; exact H
    clear H
    have H := H1
    clear H1
    replace H := Option.bind_eq_some_iff.mp H
    obtain ⟨t122, A90, H⟩ := H
    replace H : (if (t122.length : Int) = 0 then (some (0, false)) else (if 0 < (t122.length : Int) then (some (rd t122 0, true)) else (none))) = some (r1, r2) := H
    have A9 := Aside0.mk A90
    clear A90
    by_cases c10 : (t122.length : Int) = 0
    ·rw [if_pos c10] at H
     have c10b0 : ((t122.length : Int) == 0) = true := beq_iff_eq.mpr c10
     have c10b1 : ((t122.length : Int) != 0) = false := bne_eq_false_iff_eq.mpr c10
     clear c10
     simp only [Option.some.injEq, Prod.mk.injEq] at H
     obtain ⟨rfl, rfl⟩ := H
     go_wp2_with (first | ((with_reducible refine gate_callee (f := 71) rfl ?_); refine goesL_ (some 21) rfl rfl Try.func71 (by kernel_rfl) rfl #[.int .i64 a0, .int .i64 a1, .string a2] rfl (by (try simp only [List.map_toArray, List.map_cons, List.map_nil]); first | done | rfl | (simp only [List.length_drop, List.length_take]; rfl)) ?_; (with_reducible refine (spec_taLimits.calls a0 a1 a2 t122 _ A9.out).mono ?_); rintro e w11 ⟨v123, rfl, ho0, hb⟩; refine ⟨_, rfl, ?_⟩; have n0_ := Aside0.mk (Kd.R_lower ho0 (below_size (by repeat (first | (with_reducible first | exact HB.out | apply below_alloc | apply pw_below_drewN | apply below_drew1) | exact HB.out)))); have n1_ := Aside0.mk (below_step (by repeat (first | (with_reducible first | exact HB.out | apply below_alloc | apply pw_below_drewN | apply below_drew1) | exact HB.out)) hb); clear HB; have HO124 := n0_; have HB := n1_; clear n0_ n1_; (try clear hb); (try clear hb2); (try clear hk); (try clear hi); (try clear ho0); obtain ⟨Ao12, co12, eo12⟩ := Kd.R_slice HO124.out; subst eo12))
     go_ret2
     exact ⟨by first | rfl | (simp [errW_none, errW_some] <;> rfl) | (simp [*, errW_none, errW_some] <;> rfl), by repeat (first | (with_reducible first | exact HB.out | apply below_alloc | apply pw_below_drewN | apply below_drew1) | exact HB.out)⟩
    ·rw [if_neg c10] at H
     have c10b0 : ((t122.length : Int) == 0) = false := beq_eq_false_iff_ne.mpr c10
     have c10b1 : ((t122.length : Int) != 0) = true := bne_iff_ne.mpr c10
     have c10b2 : ¬ (t122 = []) := fun h_ => c10 (by rw [h_]; rfl)
     by_cases c13 : 0 < (t122.length : Int)
     ·rw [if_pos c13] at H
      have c13b0 : decide (0 < (t122.length : Int)) = true := decide_eq_true c13
      have c13b1 : decide (0 < t122.length) = true := decide_eq_true (by omega)
      clear c13
      simp only [Option.some.injEq, Prod.mk.injEq] at H
      obtain ⟨rfl, rfl⟩ := H
      go_wp2_with (first | ((with_reducible refine gate_callee (f := 71) rfl ?_); refine goesL_ (some 21) rfl rfl Try.func71 (by kernel_rfl) rfl #[.int .i64 a0, .int .i64 a1, .string a2] rfl (by (try simp only [List.map_toArray, List.map_cons, List.map_nil]); first | done | rfl | (simp only [List.length_drop, List.length_take]; rfl)) ?_; (with_reducible refine (spec_taLimits.calls a0 a1 a2 t122 _ A9.out).mono ?_); rintro e w14 ⟨v123, rfl, ho0, hb⟩; refine ⟨_, rfl, ?_⟩; have n0_ := Aside0.mk (Kd.R_lower ho0 (below_size (by repeat (first | (with_reducible first | exact HB.out | apply below_alloc | apply pw_below_drewN | apply below_drew1) | exact HB.out)))); have n1_ := Aside0.mk (below_step (by repeat (first | (with_reducible first | exact HB.out | apply below_alloc | apply pw_below_drewN | apply below_drew1) | exact HB.out)) hb); clear HB; have HO124 := n0_; have HB := n1_; clear n0_ n1_; (try clear hb); (try clear hb2); (try clear hk); (try clear hi); (try clear ho0); obtain ⟨Ao15, co15, eo15⟩ := Kd.R_slice HO124.out; subst eo15; have p125 : 0 ≤ (0 : Int) := (by omega); have q125 : 0 < (t122.length : Int) := of_decide_eq_true (by first | (with_reducible assumption) | assumption); obtain ⟨ad125, e125, hx125_0⟩ := Kd.at_int (Kd.R_reads' HO124.out).2.2 0 p125 q125; cases e125; have qi125 : (0 < t122.length) = True := eq_true (by omega); (try rw [show ((0 : Int)).toNat = 0 from rfl] at hx125_0); (try rw [Addr.add_zero'] at hx125_0); replace p125 := eq_true p125; replace q125 := eq_true q125))
      go_ret2
      exact ⟨by first | rfl | (simp [errW_none, errW_some] <;> rfl) | (simp [*, errW_none, errW_some] <;> rfl), by repeat (first | (with_reducible first | exact HB.out | apply below_alloc | apply pw_below_drewN | apply below_drew1) | exact HB.out)⟩
     ·rw [if_neg c13] at H
      exact absurd H (by simp)

end Go.Proofs.Ytlkbphhmahipdaa.P
namespace Go.Proofs.Ytlkbphhmahipdaa.P
open Go.RowKit Go.Proofs.YtlkbphhmahipdaaW.PrintWords Go.Proofs.YtlkbphhmahipdaaW.PrintLast Go.Proofs.YtlkbphhmahipdaaW.PrintMore
attribute [local go_sem] max2_int min2_int max_two min_two max_three min_three max_four min_four   -- for this text's walks alone
set_option linter.unusedVariables false
set_option linter.unusedSimpArgs false

/-! ### impl_LimitsOf: function 24 -/
mutual
def impl_LimitsOf.j0 : Nat → Int → Int → ByteArray → Bool → Option (List Int × Bool)
 | 0, _, _, _, _ => none
 | k + 1, x0, x1, x2, x18 => if x18 = true then (some (([] : List Int), false)) else (impl_LimitsOf.l0 k x0 x1 x2 (([] : List Int)) (mx x1 2))
def impl_LimitsOf.l0 : Nat → Int → Int → ByteArray → List Int → Int → Option (List Int × Bool)
 | 0, _, _, _, _, _ => none
 | k + 1, x0, x1, x2, x8, x9 => if x9 ≤ 40 then ((impl_isTrue.f x9 x0 x1 x2).bind fun t139 => (if t139 = true then (if x8.length < 17592186044416 then (impl_LimitsOf.l0 k x0 x1 x2 (x8 ++ [x9]) (wrap64 (x9 + 1))) else (none)) else (impl_LimitsOf.l0 k x0 x1 x2 x8 (wrap64 (x9 + 1))))) else (some (x8, true))
end
def impl_LimitsOf.f (k : Nat) (a0 : Int) (a1 : Int) (a2 : ByteArray) : Option (List Int × Bool) := (impl_isPair.f 40 a0 a1).bind fun t134 => (if t134 = true then ((impl_isTalk.f a2).bind fun t135 => (impl_LimitsOf.j0 k a0 a1 a2 (!t135))) else (impl_LimitsOf.j0 k a0 a1 a2 true))
set_option maxHeartbeats 8000000 in
set_option maxRecDepth 100000 in
theorem impl_LimitsOf.calls (k : Nat) (a0 : Int) (a1 : Int) (a2 : ByteArray) (r1 : List Int) (r2 : Bool) (w : World) (h : impl_LimitsOf.f k a0 a1 a2 = some (r1, r2)) :
  Calls Try.prog 24 #[.int .i64 a0, .int .i64 a1, .string a2] w fun e w' => ∃ v0_ : Value, e = .returned (.tuple #[v0_, .bool r2]) ∧ Kd.R (Kd.int .i64) 3 w' w.heap.size (fun _ => True) v0_ r1 ∧ Below w.heap.size w w' := by
 have HB := Aside0.mk (Below.refl w.heap.size w)
 have H : ((impl_isPair.f 40 a0 a1).bind fun t134 => (if t134 = true then ((impl_isTalk.f a2).bind fun t135 => (impl_LimitsOf.j0 k a0 a1 a2 (!t135))) else (impl_LimitsOf.j0 k a0 a1 a2 true))) = some (r1, r2) := h
 clear h
 have HC4 := Aside0.mk H
 clear H
 go_enter Try.func24, Try.ntmps24
 go_upto_region 1 with (fail)
 go_cut [18] (fun v18 wc => ∃ (kq : Nat) (x18_3 : Bool), v18 = .bool x18_3 ∧ Aside0 (impl_LimitsOf.j0 kq a0 a1 a2 x18_3 = some (r1, r2)) ∧ Aside0 (kq ≤ k) ∧ Aside0 (Below w.heap.size w wc))
 case first =>
  have H := HC4.out
  clear HC4
  replace H := Option.bind_eq_some_iff.mp H
  obtain ⟨t134, A50, H⟩ := H
  replace H : (if t134 = true then ((impl_isTalk.f a2).bind fun t135 => (impl_LimitsOf.j0 k a0 a1 a2 (!t135))) else (impl_LimitsOf.j0 k a0 a1 a2 true)) = some (r1, r2) := H
  have A5 := Aside0.mk A50
  clear A50
  by_cases c6 : t134 = true
  ·subst c6
   have H1 : ((impl_isTalk.f a2).bind fun t135 => (impl_LimitsOf.j0 k a0 a1 a2 (!t135))) = some (r1, r2) := by rw [if_pos rfl] at H; exact H
   clear H
   have H := H1
   clear H1
   replace H := Option.bind_eq_some_iff.mp H
   obtain ⟨t135, A70, H⟩ := H
   replace H : (impl_LimitsOf.j0 k a0 a1 a2 (!t135)) = some (r1, r2) := H
   have A7 := Aside0.mk A70
   clear A70
   have H' := Aside0.mk H
   clear H
   go_wp2_with (first | ((with_reducible refine gate_callee (f := 80) rfl ?_); refine goesL_ (some 12) rfl rfl Try.func80 (by kernel_rfl) rfl #[.int .i64 40, .int .i64 a0, .int .i64 a1] rfl (by (try simp only [List.map_toArray, List.map_cons, List.map_nil]); first | done | rfl | (simp only [List.length_drop, List.length_take]; rfl)) ?_; (with_reducible refine (impl_isPair.calls 40 a0 a1 true _ A5.out).mono ?_); rintro e w' ⟨rfl, ⟨nd, rfl⟩⟩; refine ⟨_, rfl, ?_⟩) | (go_at_call 75; (with_reducible refine (impl_isTalk.calls a2 t135 _ A7.out).mono ?_); rintro e w8 ⟨rfl, hb⟩; have n0_ := Aside0.mk (below_step (by repeat (first | (with_reducible first | exact HB.out | apply below_alloc | apply pw_below_drewN | apply below_drew1) | exact HB.out)) hb); clear HB; have HB := n0_; clear n0_; (try clear hb); (try clear hb2); (try clear hk); (try clear hi)))
   go_meet
   case rel => exact ⟨_, (!t135), (by first | rfl | (simp; done) | (simp [*]; done)), H', ⟨by first | omega | exact Nat.le_refl _⟩, ⟨by repeat (first | (with_reducible first | exact HB.out | apply below_alloc | apply pw_below_drewN | apply below_drew1) | exact HB.out)⟩⟩
  ·replace c6 := Bool.eq_false_iff.mpr c6
   subst c6
   have H1 : (impl_LimitsOf.j0 k a0 a1 a2 true) = some (r1, r2) := by rw [if_neg (show ¬ (false = true) by decide)] at H; exact H
   clear H
   have H := H1
   clear H1
   have H' := Aside0.mk H
   clear H
   go_wp2_with (first | ((with_reducible refine gate_callee (f := 80) rfl ?_); refine goesL_ (some 12) rfl rfl Try.func80 (by kernel_rfl) rfl #[.int .i64 40, .int .i64 a0, .int .i64 a1] rfl (by (try simp only [List.map_toArray, List.map_cons, List.map_nil]); first | done | rfl | (simp only [List.length_drop, List.length_take]; rfl)) ?_; (with_reducible refine (impl_isPair.calls 40 a0 a1 false _ A5.out).mono ?_); rintro e w' ⟨rfl, ⟨nd, rfl⟩⟩; refine ⟨_, rfl, ?_⟩))
   go_meet
   case rel => exact ⟨_, (true), (by first | rfl | (simp; done) | (simp [*]; done)), H', ⟨by first | omega | exact Nat.le_refl _⟩, ⟨by repeat (first | (with_reducible first | exact HB.out | apply below_alloc | apply pw_below_drewN | apply below_drew1) | exact HB.out)⟩⟩
 case rest =>
  clear HC4
  try clear c2
  try clear p2
  try clear c6
  try clear c8
  obtain ⟨kq, x18_3, rfl, HA, HJ3, HB⟩ := hcut
  cases kq with
  | zero => exact absurd HA.out (by simp [impl_LimitsOf.j0])
  | succ kj3 =>
   have H := HA.out
   clear HA
   simp only [impl_LimitsOf.j0] at H
   by_cases c9 : x18_3 = true
   ·subst c9
    have H1 : (some (([] : List Int), false)) = some (r1, r2) := by rw [if_pos rfl] at H; exact H
    clear H
    have H := H1
    clear H1
    simp only [Option.some.injEq, Prod.mk.injEq] at H
    obtain ⟨rfl, rfl⟩ := H
    go_wp2
    go_ret2
    exact ⟨_, by first | rfl | (simp [errW_none, errW_some] <;> rfl) | (simp [*, errW_none, errW_some] <;> rfl), by first | exact Kd.R_nil _ _ _ _ _ | exact Kd.N_nil _ _ _ _ _ | exact Kd.V_nil _ _ _ _ _ | exact Kd.Q_nil _ _ _ _ _ | exact Kd.S_nil _ _ _ _ _, by repeat (first | (with_reducible first | exact HB.out | apply below_alloc | apply pw_below_drewN | apply below_drew1) | exact HB.out)⟩
   ·replace c9 := Bool.eq_false_iff.mpr c9
    subst c9
    have H1 : (impl_LimitsOf.l0 kj3 a0 a1 a2 (([] : List Int)) (mx a1 2)) = some (r1, r2) := by rw [if_neg (show ¬ (false = true) by decide)] at H; exact H
    clear H
    have H := H1
    clear H1
    obtain ⟨y136, hy136⟩ : ∃ y_ : List Int, y_ = (([] : List Int)) := ⟨_, rfl⟩
    replace H : (impl_LimitsOf.l0 kj3 a0 a1 a2 y136 (mx a1 2)) = some (r1, r2) := by first | (rw [hy136]; with_reducible exact H) | (have H2_ := (Option.bind_some _ _).symm.trans H; rw [hy136]; with_reducible exact H2_) | (have H2_ := (Option.bind_some _ _).symm.trans H; with_reducible exact H2_) | with_reducible exact H | (rw [hy136]; exact H) | exact H
    have Ny136 := Aside0.mk hy136
    clear hy136
    obtain ⟨ji10, hji10⟩ : ∃ j_ : Int, (mx a1 2) = j_ := ⟨_, rfl⟩
    replace H : (impl_LimitsOf.l0 kj3 a0 a1 a2 y136 ji10) = some (r1, r2) := by first | (rw [hji10] at H; exact H) | (simp only [hji10] at H ⊢; exact H)
    have hji10_ : (if a1 < 2 then 2 else a1) = ji10 := hji10
    have H' := Aside0.mk H
    clear H
    go_wp2_with (first | ((with_reducible refine gate_dst (N := 19) rfl ?_); refine Kd.R_lit (Kd.int .i64) _ 3 ?hg (N := 19) ?hd (xs := ([] : List Int)) (inner := []) (ok := fun _ => True) (okp := fun _ => True) ?hr ?hp (fun _ hk => hk) trivial (Below.refl _ _) (Nat.le_refl _) (by simp) ?_; (case hd => rfl); (case hg => rfl); (case hr => first | (go_simp; done) | (go_simp; rfl)); (case hp => exact (Reps.none _ _)); intro v137 w11 ho12 hb hg_ hnew_; clear hg_ hnew_; (first | rw [← Ny136.out] at ho12 | (simp only [Int.reduceToNat] at ho12; rw [← Ny136.out] at ho12)); have n0_ := Aside0.mk (Kd.R_lower ho12 (below_size (by repeat (first | (with_reducible first | exact HB.out | apply below_alloc | apply pw_below_drewN | apply below_drew1) | exact HB.out)))); have n1_ := Aside0.mk (below_step (by repeat (first | (with_reducible first | exact HB.out | apply below_alloc | apply pw_below_drewN | apply below_drew1) | exact HB.out)) hb); clear HB; have HO138 := n0_; have HB := n1_; clear n0_ n1_; clear hb ho12))
    go_loopg [8, 9] kj3 (fun kq v8 v9 w' => ∃ (x8_2 : List Int) (x9_2 : Int), v9 = .int .i64 x9_2 ∧ Aside0 (impl_LimitsOf.l0 kq a0 a1 a2 x8_2 x9_2 = some (r1, r2)) ∧ Aside0 (kq ≤ kj3) ∧ Aside0 (Kd.R (Kd.int .i64) 3 w' w.heap.size (fun _ => True) v8 x8_2) ∧ Aside0 (Below w.heap.size w w'))
    case atStart => exact ⟨(y136), (ji10), (by first | rfl | (simp; done) | (simp only [← hji10] <;> (first | rfl | simp)) | (simp [*]; done)), H', ⟨Nat.le_refl _⟩, ⟨by (with_reducible repeat (first | apply Kd.R_alloc | apply Kd.R_drewN | apply Kd.R_drew)); exact HO138.out⟩, ⟨by repeat (first | (with_reducible first | exact HB.out | apply below_alloc | apply pw_below_drewN | apply below_drew1) | exact HB.out)⟩⟩
    case round =>
     clear H'
     try clear c2
     try clear p2
     try clear c6
     try clear c8
     try clear c9
     try clear p2
     obtain ⟨x8_2, x9_2, rfl, HA, HK2, HO_8, HB⟩ := hrel
     cases gk with
     | zero => exact absurd HA.out (by simp [impl_LimitsOf.l0])
     | succ k2 =>
      have H := HA.out
      clear HA
      simp only [impl_LimitsOf.l0] at H
      by_cases c13 : x9_2 ≤ 40
      ·rw [if_pos c13] at H
       have c13b0 : decide (x9_2 ≤ 40) = true := decide_eq_true c13
       clear c13
       replace H := Option.bind_eq_some_iff.mp H
       obtain ⟨t139, A140, H⟩ := H
       replace H : (if t139 = true then (if x8_2.length < 17592186044416 then (impl_LimitsOf.l0 k2 a0 a1 a2 (x8_2 ++ [x9_2]) (wrap64 (x9_2 + 1))) else (none)) else (impl_LimitsOf.l0 k2 a0 a1 a2 x8_2 (wrap64 (x9_2 + 1)))) = some (r1, r2) := H
       have A14 := Aside0.mk A140
       clear A140
       by_cases c15 : t139 = true
       ·subst c15
        have H1 : (if x8_2.length < 17592186044416 then (impl_LimitsOf.l0 k2 a0 a1 a2 (x8_2 ++ [x9_2]) (wrap64 (x9_2 + 1))) else (none)) = some (r1, r2) := by rw [if_pos rfl] at H; exact H
        clear H
        have H := H1
        clear H1
        by_cases c16 : x8_2.length < 17592186044416
        ·rw [if_pos c16] at H
         have LMc16 := Aside0.mk c16
         clear c16
         obtain ⟨y140, hy140⟩ : ∃ y_ : List Int, y_ = (x8_2 ++ [x9_2]) := ⟨_, rfl⟩
         replace H : (impl_LimitsOf.l0 k2 a0 a1 a2 y140 (wrap64 (x9_2 + 1))) = some (r1, r2) := by first | (rw [hy140]; with_reducible exact H) | (have H2_ := (Option.bind_some _ _).symm.trans H; rw [hy140]; with_reducible exact H2_) | (have H2_ := (Option.bind_some _ _).symm.trans H; with_reducible exact H2_) | with_reducible exact H | (rw [hy140]; exact H) | exact H
         have Ny140 := Aside0.mk hy140
         clear hy140
         have H' := Aside0.mk H
         clear H
         go_wp2_with (first | ((with_reducible refine gate_callee (f := 81) rfl ?_); refine goesL_ (some 30) rfl rfl Try.func81 (by kernel_rfl) rfl #[.int .i64 x9_2, .int .i64 a0, .int .i64 a1, .string a2] rfl (by (try simp only [List.map_toArray, List.map_cons, List.map_nil]); first | done | rfl | (simp only [List.length_drop, List.length_take]; rfl)) ?_; (with_reducible refine (impl_isTrue.calls x9_2 a0 a1 a2 true _ A14.out).mono ?_); rintro e w17 ⟨rfl, hb⟩; refine ⟨_, rfl, ?_⟩; have n0_ := Aside0.mk (Kd.R_below (by (with_reducible repeat (first | apply Kd.R_alloc | apply Kd.R_drewN | apply Kd.R_drew)); exact HO_8.out) hb); have n1_ := Aside0.mk (below_step (by repeat (first | (with_reducible first | exact HB.out | apply below_alloc | apply pw_below_drewN | apply below_drew1) | exact HB.out)) hb); clear HO_8; clear HB; have HO_8 := n0_; have HB := n1_; clear n0_ n1_; (try clear hb); (try clear hb2); (try clear hk); (try clear hi)) | ((with_reducible refine gate_builtin (b := .append) (xs := #[.tmp 31, .tmp 33]) rfl ?_); at_builtin; refine Kd.R_append (Kd.int .i64) (w0 := w) w.heap.size rfl (.tmp 31) (.tmp 33) 36 3 (.int .i64 0) 8 rfl Try.underlying36 info3 rfl (by decide) (by omega) u8 x8_2 x9_2 [.int .i64 x9_2] (fun _ => True) (fun _ => False) rfl rfl ?aP (fun _ hk => hk.elim) ?aF ?aO ?aB ?aS ?aL ?_; (case aP => exact rfl); (case aB => exact (by repeat (first | (with_reducible first | exact HB.out | apply below_alloc | apply pw_below_drewN | apply below_drew1) | exact HB.out))); (case aF => exact (fun _ _ => trivial)); (case aO => exact (by (with_reducible repeat (first | apply Kd.R_alloc | apply Kd.R_drewN | apply Kd.R_drew)); exact HO_8.out)); (case aS => exact (below_size (by repeat (first | (with_reducible first | exact HB.out | apply below_alloc | apply pw_below_drewN | apply below_drew1) | exact HB.out)))); (case aL => have := LMc16.out; omega); intro v141 w18 ho hb hg hat; rw [← Ny140.out] at ho; have n0_ := Aside0.mk (hb); have n1_ := Aside0.mk (ho); clear HB; clear HO_8; have HB := n0_; have HO142 := n1_; clear n0_ n1_; clear ho hb hg hat))
         go_roundg k2
         case measure => have := HJ3.out; have := HK2.out; omega
         case rel => exact ⟨(y140), (wrap64 (x9_2 + 1)), (by first | rfl | (simp; done) | (simp [*]; done)), H', ⟨by have := HJ3.out; have := HK2.out; omega⟩, ⟨by (with_reducible repeat (first | apply Kd.R_alloc | apply Kd.R_drewN | apply Kd.R_drew)); exact HO142.out⟩, ⟨by repeat (first | (with_reducible first | exact HB.out | apply below_alloc | apply pw_below_drewN | apply below_drew1) | exact HB.out)⟩⟩
        ·rw [if_neg c16] at H
         exact absurd H (by simp)
       ·replace c15 := Bool.eq_false_iff.mpr c15
        subst c15
        have H1 : (impl_LimitsOf.l0 k2 a0 a1 a2 x8_2 (wrap64 (x9_2 + 1))) = some (r1, r2) := by rw [if_neg (show ¬ (false = true) by decide)] at H; exact H
        clear H
        have H := H1
        clear H1
        have H' := Aside0.mk H
        clear H
        go_wp2_with (first | ((with_reducible refine gate_callee (f := 81) rfl ?_); refine goesL_ (some 30) rfl rfl Try.func81 (by kernel_rfl) rfl #[.int .i64 x9_2, .int .i64 a0, .int .i64 a1, .string a2] rfl (by (try simp only [List.map_toArray, List.map_cons, List.map_nil]); first | done | rfl | (simp only [List.length_drop, List.length_take]; rfl)) ?_; (with_reducible refine (impl_isTrue.calls x9_2 a0 a1 a2 false _ A14.out).mono ?_); rintro e w19 ⟨rfl, hb⟩; refine ⟨_, rfl, ?_⟩; have n0_ := Aside0.mk (Kd.R_below (by (with_reducible repeat (first | apply Kd.R_alloc | apply Kd.R_drewN | apply Kd.R_drew)); exact HO_8.out) hb); have n1_ := Aside0.mk (below_step (by repeat (first | (with_reducible first | exact HB.out | apply below_alloc | apply pw_below_drewN | apply below_drew1) | exact HB.out)) hb); clear HO_8; clear HB; have HO_8 := n0_; have HB := n1_; clear n0_ n1_; (try clear hb); (try clear hb2); (try clear hk); (try clear hi)))
        go_roundg k2
        case measure => have := HJ3.out; have := HK2.out; omega
        case rel => exact ⟨(x8_2), (wrap64 (x9_2 + 1)), (by first | rfl | (simp; done) | (simp [*]; done)), H', ⟨by have := HJ3.out; have := HK2.out; omega⟩, ⟨by (with_reducible repeat (first | apply Kd.R_alloc | apply Kd.R_drewN | apply Kd.R_drew)); exact HO_8.out⟩, ⟨by repeat (first | (with_reducible first | exact HB.out | apply below_alloc | apply pw_below_drewN | apply below_drew1) | exact HB.out)⟩⟩
      ·rw [if_neg c13] at H
       have c13b0 : decide (x9_2 ≤ 40) = false := decide_eq_false c13
       clear c13
       simp only [Option.some.injEq, Prod.mk.injEq] at H
       obtain ⟨rfl, rfl⟩ := H
       go_wp2
       go_ret2
       exact ⟨_, by first | rfl | (simp [errW_none, errW_some] <;> rfl) | (simp only [← hji10]; first | rfl | (simp [errW_none, errW_some] <;> rfl)) | (simp [*, errW_none, errW_some] <;> rfl), by (with_reducible repeat (first | apply Kd.R_alloc | apply Kd.R_drewN | apply Kd.R_drew)); exact HO_8.out, by repeat (first | (with_reducible first | exact HB.out | apply below_alloc | apply pw_below_drewN | apply below_drew1) | exact HB.out)⟩

end Go.Proofs.Ytlkbphhmahipdaa.P
