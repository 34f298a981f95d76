/- Calls of the functions of the given program return what the plain Lean functions of the same names return; and a row of a law out of its pure statement. Written by a program of this session out of the translation; Lean checks it. No condition. -/
import Derived.Test.YtlkbphhmahipdaaPx0
import Derived.Test.YtlkbphhmahipdaaTk
namespace Go.Proofs.Ytlkbphhmahipdaa.P
open Go.RowKit Go.Proofs.YtlkbphhmahipdaaW.PrintWords Go.Proofs.YtlkbphhmahipdaaW.PrintLast Go.Proofs.YtlkbphhmahipdaaW.PrintMore
attribute [local go_sem] max2_int min2_int max_two min_two max_three min_three max_four min_four   -- for this text's walks alone
set_option linter.unusedVariables false
set_option linter.unusedSimpArgs false

/-! ### impl_pairsThat: function 100, by hand -/
-- IMPORT Derived.Test.YtlkbphhmahipdaaTk
/-- The pairs from a on, and those of one first number. -/
def impl_pairsThat.row (q : Int → Int → Bool) (a m : Nat) : List (List Int) := ((List.range m).filter fun j : Nat => q a (a + (j : Int))).map fun j : Nat => [(a : Int), a + (j : Int)]
def impl_pairsThat.all (q : Int → Int → Bool) (n m : Nat) : List (List Int) := (List.range m).flatMap fun i => impl_pairsThat.row q (i + 1) (n - i)
theorem impl_pairsThat.row_yes (q : Int → Int → Bool) (a m : Nat) (h : q a (a + (m : Int)) = true) : impl_pairsThat.row q a (m + 1) = impl_pairsThat.row q a m ++ [[(a : Int), a + (m : Int)]] := by simp [impl_pairsThat.row, List.range_succ, h]
theorem impl_pairsThat.row_no (q : Int → Int → Bool) (a m : Nat) (h : q a (a + (m : Int)) = false) : impl_pairsThat.row q a (m + 1) = impl_pairsThat.row q a m := by simp [impl_pairsThat.row, List.range_succ, h]
theorem impl_pairsThat.all_succ (q : Int → Int → Bool) (n m : Nat) : impl_pairsThat.all q n (m + 1) = impl_pairsThat.all q n m ++ impl_pairsThat.row q (m + 1) (n - m) := by simp [impl_pairsThat.all, List.range_succ]
/-- What the pairs are while they are collected. -/
structure impl_pairsThat.St (w wr : World) (v : Value) (ps : List Tk.PP) (xs : List (List Int)) (N : Nat) : Prop where
  has : Tk.Has 36 3 wr w.heap.size w.heap.size v ps
  val : Tk.vals ps = xs
  few : ps.length ≤ N
  bel : Below w.heap.size w wr
set_option maxHeartbeats 4000000 in
set_option maxRecDepth 100000 in
theorem impl_pairsThat.any (q : Int → Int → Bool) (g : Nat) (lb : Array Value) (eg : ∀ args w, (callFunc g args).run Try.prog w = .ok (.enter g args) w) (n : Nat) (hn : n ≤ 1000) (w : World)
    (hp : ∀ (p : Tk.PP) W, Below w.heap.size w W → W.heap[p.1]? = some (.cells #[.int .i64 p.2.1, .int .i64 p.2.2] 3 (0, 0)) → Calls Try.prog g (#[Tk.cv p] ++ lb) W fun e w' => e = .returned (.bool (q p.2.1 p.2.2)) ∧ Below W.heap.size W w') :
    Calls Try.prog 100 #[.int .i64 (n : Int), .func (.func g) #[] lb] w fun e w' => ∃ v : Value, e = .returned v ∧ ∃ ps : List Tk.PP, Tk.Has 36 3 w' w.heap.size w.heap.size v ps ∧ Tk.vals ps = impl_pairsThat.all q n n ∧ Below w.heap.size w w' := by
  have HP := Aside0.mk hp
  clear hp
  go_enter Try.func100, Try.ntmps100
  go_wp2
  have HS0 := Aside0.mk (show impl_pairsThat.St w (w.alloc (.cells #[] 36)) (.slice (some ⟨w.heap.size, 0, none⟩) 0 0) [] [] 0 from by
    have h := own_lit_of (enc := Tk.cv) w w.heap.size 36 ([] : List Tk.PP) (Nat.le_refl _) (by simp)
    exact ⟨⟨by simpa [encs] using h, (fun p hp => by cases hp), by simp, (fun p hp => by cases hp)⟩, rfl, Nat.le_refl _, below_alloc (Below.refl _ _) _⟩)
  go_loopg [5, 6] n (fun gg s5 s6 wr => ∃ (i : Nat) (a : Int) (ps : List Tk.PP), s6 = .int .i64 a ∧ i ≤ n ∧ n - i ≤ gg ∧ Aside0 (a = (i : Int) + 1) ∧ Aside0 (impl_pairsThat.St w wr s5 ps (impl_pairsThat.all q n i) (i * 1000)))
  case atStart => exact ⟨0, 1, [], rfl, Nat.zero_le _, by omega, ⟨rfl⟩, ⟨by simpa [impl_pairsThat.all] using HS0.out⟩⟩
  case round =>
    obtain ⟨i, a, ps, rfl, hin, hgg, HA, HS⟩ := hrel
    clear HS0
    by_cases hi : i < n
    · have hiz : a ≤ (n : Int) := by have := HA.out; omega
      have ha0 : 1 ≤ a := by have := HA.out; omega
      have hN : (n : Int) ≤ 1000 := by omega
      go_wp2
      go_loopg [5, 7] (n - i) (fun gg s5 s7 wr => ∃ (j : Nat) (b : Int) (ps : List Tk.PP), s7 = .int .i64 b ∧ j ≤ n - i ∧ n - i - j ≤ gg ∧ Aside0 (b = a + j) ∧ Aside0 (impl_pairsThat.St w wr s5 ps (impl_pairsThat.all q n i ++ impl_pairsThat.row q (i + 1) j) (i * 1000 + j)))
      case atStart => exact ⟨0, a, ps, rfl, Nat.zero_le _, by omega, ⟨by simp⟩, ⟨by simpa [impl_pairsThat.row] using HS.out⟩⟩
      case round =>
        obtain ⟨j, b, ps, rfl, hj, hgg, HB, HS⟩ := hrel
        by_cases hjn : j < n - i
        · have hjz : b ≤ (n : Int) := by have := HA.out; have := HB.out; omega
          have hb0 : 1 ≤ b := by have := HA.out; have := HB.out; omega
          have hcall := HP.out (wr.heap.size, a, b) (wr.alloc (.cells #[.int .i64 a, .int .i64 b] 3)) (below_alloc HS.out.bel _) (by show (wr.heap.push _)[wr.heap.size]? = _; simp)
          have eab : q a b = q ((i + 1 : Nat) : Int) (((i + 1 : Nat) : Int) + (j : Int)) := by rw [HB.out, HA.out]; simp
          have EV := Aside0.mk (show [a, b] = [((i + 1 : Nat) : Int), ((i + 1 : Nat) : Int) + (j : Int)] by rw [HB.out, HA.out]; simp)
          unfold Tk.cv at hcall
          have HC := Aside0.mk hcall
          clear hcall
          cases hq : q a b with
          | false =>
            have HC2 : Aside0 (Calls Try.prog g (#[.slice (some ⟨wr.heap.size, 0, none⟩) 2 2] ++ lb) (wr.alloc (.cells #[.int .i64 a, .int .i64 b] 3)) fun e w' => e = .returned (.bool false) ∧ Below (wr.alloc (.cells #[.int .i64 a, .int .i64 b] 3)).heap.size (wr.alloc (.cells #[.int .i64 a, .int .i64 b] 3)) w') := ⟨by have := HC.out; simp only [hq] at this; exact this⟩
            have HQ := Aside0.mk (eab.symm.trans hq)
            clear hq eab HC
            go_wp2_with fail
            refine HC2.out.mono ?_
            rintro e w2 ⟨rfl, hb⟩
            have HB2 := Aside0.mk hb
            clear hb HC2
            go_wp2
            go_roundg (n - i - (j + 1))
            case measure => omega
            case rel =>
              have hb := (below_alloc (Below.refl wr.heap.size wr) _).trans (HB2.out.mono (by simp))
              exact ⟨j + 1, b + 1, ps, by go_num, by omega, by omega, ⟨by have := HB.out; omega⟩, ⟨HS.out.has.below hb, by rw [impl_pairsThat.row_no q (i + 1) j HQ.out]; exact HS.out.val, by have := HS.out.few; omega, below_step HS.out.bel hb⟩⟩
          | true =>
            have HC2 : Aside0 (Calls Try.prog g (#[.slice (some ⟨wr.heap.size, 0, none⟩) 2 2] ++ lb) (wr.alloc (.cells #[.int .i64 a, .int .i64 b] 3)) fun e w' => e = .returned (.bool true) ∧ Below (wr.alloc (.cells #[.int .i64 a, .int .i64 b] 3)).heap.size (wr.alloc (.cells #[.int .i64 a, .int .i64 b] 3)) w') := ⟨by have := HC.out; simp only [hq] at this; exact this⟩
            have HQ := Aside0.mk (eab.symm.trans hq)
            clear hq eab HC
            go_wp2_with fail
            refine HC2.out.mono ?_
            rintro e w2 ⟨rfl, hb⟩
            have HB2 := Aside0.mk hb
            clear hb HC2
            have HK := Aside0.mk (show impl_pairsThat.St w w2 u5 ps (impl_pairsThat.all q n i ++ impl_pairsThat.row q (i + 1) j) (i * 1000 + j) ∧ (w.heap.size ≤ wr.heap.size ∧ w2.heap[wr.heap.size]? = some (.cells #[.int .i64 a, .int .i64 b] 3 (0, 0))) ∧ (∀ p ∈ ps, p.1 ≠ wr.heap.size) ∧ u5.ownBlock ≠ some wr.heap.size from by
              have hb := (below_alloc (Below.refl wr.heap.size wr) (.cells #[.int .i64 a, .int .i64 b] 3)).trans (HB2.out.mono (by simp))
              refine ⟨⟨HS.out.has.below hb, HS.out.val, HS.out.few, below_step HS.out.bel hb⟩, ⟨HS.out.bel.size, ?_⟩, fun p hp => ?_, fun e => ?_⟩
              · rw [HB2.out.block _ (by simp)]
                show (wr.heap.push _)[wr.heap.size]? = _
                simp
              · have := HS.out.has.inn.lt p hp; omega
              · have := (HS.out.has.lt _ e).2; omega)
            generalize wr.heap.size = Bp at HK
            go_wp2_with ((with_reducible refine gate_builtin (b := .append) (xs := #[.tmp 27, .tmp 29]) rfl ?_); at_builtin; refine Kd.R_append Tk.KP (w0 := w) w.heap.size rfl (.tmp 27) (.tmp 29) 25 36 (.slice none 0 0) 24 rfl Try.underlying25 (by kernel_rfl) rfl (by decide) (by omega) u5 ps (Bp, a, b) [.slice (some ⟨Bp, 0, none⟩) 2 2] (fun _ => True) (fun _ => False) rfl (by first | (go_simp; done) | (go_simp; rfl)) rfl (fun _ hk => hk.elim) (fun _ _ => trivial) HK.out.1.has.R HK.out.1.bel HK.out.1.bel.size (by have := HK.out.1.few; omega) ?_; intro v3 w3 ho hb hg hat; have HO := Aside0.mk (HK.out.1.has.push (Bp, a, b) HK.out.2.1 HK.out.2.2.1 HK.out.2.2.2 ho hg hat); have HB3 := Aside0.mk hb; clear ho hb hg hat)
            go_roundg (n - i - (j + 1))
            case measure => omega
            case rel =>
              exact ⟨j + 1, b + 1, ps ++ [(Bp, a, b)], by go_num, by omega, by omega, ⟨by have := HB.out; omega⟩, ⟨HO.out, by rw [impl_pairsThat.row_yes q (i + 1) j HQ.out, ← List.append_assoc, ← EV.out, ← HK.out.1.val]; simp [Tk.vals, Tk.vl], by rw [List.length_append, List.length_singleton]; have := HK.out.1.few; omega, HB3.out⟩⟩
        · have hjz : ¬ b ≤ (n : Int) := by have := HA.out; have := HB.out; omega
          obtain rfl : j = n - i := by omega
          go_wp2
          go_roundg (n - (i + 1))
          case measure => omega
          case rel => exact ⟨i + 1, a + 1, ps, by go_num, by omega, by omega, ⟨by have := HA.out; omega⟩, ⟨HS.out.has, by rw [impl_pairsThat.all_succ]; exact HS.out.val, by have := HS.out.few; omega, HS.out.bel⟩⟩
    · have hiz : ¬ a ≤ (n : Int) := by have := HA.out; omega
      obtain rfl : i = n := by omega
      go_wp2
      go_ret
      exact ⟨_, rfl, _, HS.out.has, HS.out.val, HS.out.bel⟩

end Go.Proofs.Ytlkbphhmahipdaa.P
