/- Calls of the functions of the given program return what the plain Lean functions of the same names return; and a row of a law out of its pure statement. Written by a program of this session out of the translation; Lean checks it. No condition. -/
import Derived.Test.YtlkbphhmahipdaaPx0
import Derived.Test.YtlkbphhmahipdaaPxHimplqpairsThat
import Derived.Test.YtlkbphhmahipdaaPxHimplqleft
import Derived.Test.YtlkbphhmahipdaaTk
namespace Go.Proofs.Ytlkbphhmahipdaa.P
open Go.RowKit Go.Proofs.YtlkbphhmahipdaaW.PrintWords Go.Proofs.YtlkbphhmahipdaaW.PrintLast Go.Proofs.YtlkbphhmahipdaaW.PrintMore
attribute [local go_sem] max2_int min2_int max_two min_two max_three min_three max_four min_four   -- for this text's walks alone
set_option linter.unusedVariables false
set_option linter.unusedSimpArgs false

/-! ### spec_taPairs: function 94, by hand -/
-- IMPORT Derived.Test.YtlkbphhmahipdaaTk
set_option maxHeartbeats 4000000 in
set_option maxRecDepth 100000 in
theorem spec_taPairs.has (n : Nat) (hn : n ≤ 40) (w : World) :
    Calls Try.prog 94 #[.int .i64 (n : Int)] w fun e w' => ∃ v : Value, e = .returned v ∧ ∃ ps : List Tk.PP, Tk.Has 36 3 w' w.heap.size w.heap.size v ps ∧ Tk.vals ps = impl_left.pairs n ∧ Below w.heap.size w w' := by
  have hn : n ≤ 1000 := by omega
  unfold impl_left.pairs
  go_enter Try.func94, Try.ntmps94
  go_wp2
  have HS0 := Aside0.mk (show impl_pairsThat.St w w (.slice none 0 0) [] [] 0 from ⟨Tk.Has.nil _ _ _, rfl, Nat.le_refl _, Below.refl _ _⟩)
  go_loopg [3, 4] n (fun gg s5 s6 wr => ∃ (i : Nat) (a : Int) (ps : List Tk.PP), s6 = .int .i64 a ∧ i ≤ n ∧ n - i ≤ gg ∧ Aside0 (a = (i : Int) + 1) ∧ Aside0 (impl_pairsThat.St w wr s5 ps (impl_pairsThat.all (fun _ _ => true) n i) (i * 1000)))
  case atStart => exact ⟨0, 1, [], rfl, Nat.zero_le _, by omega, ⟨rfl⟩, ⟨by simpa [impl_pairsThat.all] using HS0.out⟩⟩
  case round =>
    obtain ⟨i, a, ps, rfl, hin, hgg, HA, HS⟩ := hrel
    clear HS0
    by_cases hi : i < n
    · have hiz : a ≤ (n : Int) := by have := HA.out; omega
      have ha0 : 1 ≤ a := by have := HA.out; omega
      have hN : (n : Int) ≤ 1000 := by omega
      go_wp2
      go_loopg [3, 5] (n - i) (fun gg s5 s7 wr => ∃ (j : Nat) (b : Int) (ps : List Tk.PP), s7 = .int .i64 b ∧ j ≤ n - i ∧ n - i - j ≤ gg ∧ Aside0 (b = a + j) ∧ Aside0 (impl_pairsThat.St w wr s5 ps (impl_pairsThat.all (fun _ _ => true) n i ++ impl_pairsThat.row (fun _ _ => true) (i + 1) j) (i * 1000 + j)))
      case atStart => exact ⟨0, a, ps, rfl, Nat.zero_le _, by omega, ⟨by simp⟩, ⟨by simpa [impl_pairsThat.row] using HS.out⟩⟩
      case round =>
        obtain ⟨j, b, ps, rfl, hj, hgg, HB, HS⟩ := hrel
        by_cases hjn : j < n - i
        · have hjz : b ≤ (n : Int) := by have := HA.out; have := HB.out; omega
          have hb0 : 1 ≤ b := by have := HA.out; have := HB.out; omega
          have EV := Aside0.mk (show [a, b] = [((i + 1 : Nat) : Int), ((i + 1 : Nat) : Int) + (j : Int)] by rw [HB.out, HA.out]; simp)
          have HK := Aside0.mk (show impl_pairsThat.St w (wr.alloc (.cells #[.int .i64 a, .int .i64 b] 3)) u3 ps (impl_pairsThat.all (fun _ _ => true) n i ++ impl_pairsThat.row (fun _ _ => true) (i + 1) j) (i * 1000 + j) ∧ (w.heap.size ≤ wr.heap.size ∧ (wr.alloc (.cells #[.int .i64 a, .int .i64 b] 3)).heap[wr.heap.size]? = some (.cells #[.int .i64 a, .int .i64 b] 3 (0, 0))) ∧ (∀ p ∈ ps, p.1 ≠ wr.heap.size) ∧ u3.ownBlock ≠ some wr.heap.size from by
            have hb := below_alloc (Below.refl wr.heap.size wr) (.cells #[.int .i64 a, .int .i64 b] 3)
            refine ⟨⟨HS.out.has.below hb, HS.out.val, HS.out.few, below_step HS.out.bel hb⟩, ⟨HS.out.bel.size, ?_⟩, fun p hp => ?_, fun e => ?_⟩
            · show (wr.heap.push _)[wr.heap.size]? = _
              simp
            · have := HS.out.has.inn.lt p hp; omega
            · have := (HS.out.has.lt _ e).2; omega)
          go_wp2_with ((with_reducible refine gate_builtin (b := .append) (xs := #[.tmp 17, .tmp 21]) rfl ?_); at_builtin; refine Kd.R_append Tk.KP (w0 := w) (W := wr.alloc (.cells #[.int .i64 a, .int .i64 b] 3)) w.heap.size rfl (.tmp 17) (.tmp 21) 25 36 (.slice none 0 0) 24 rfl Try.underlying25 (by kernel_rfl) rfl (by decide) (by omega) u3 ps (wr.heap.size, a, b) [.slice (some ⟨wr.heap.size, 0, none⟩) 2 2] (fun _ => True) (fun _ => False) rfl (by first | (go_simp; done) | (go_simp; rfl)) rfl (fun _ hk => hk.elim) (fun _ _ => trivial) HK.out.1.has.R HK.out.1.bel HK.out.1.bel.size (by have := HK.out.1.few; omega) ?_; intro v3 w3 ho hb hg hat; have HO := Aside0.mk (HK.out.1.has.push (wr.heap.size, a, b) HK.out.2.1 HK.out.2.2.1 HK.out.2.2.2 ho hg hat); have HB3 := Aside0.mk hb; clear ho hb hg hat)
          go_roundg (n - i - (j + 1))
          case measure => omega
          case rel =>
            exact ⟨j + 1, b + 1, ps ++ [(wr.heap.size, a, b)], by go_num, by omega, by omega, ⟨by have := HB.out; omega⟩, ⟨HO.out, by rw [impl_pairsThat.row_yes (fun _ _ => true) (i + 1) j rfl, ← List.append_assoc, ← EV.out, ← HK.out.1.val]; simp [Tk.vals, Tk.vl], by rw [List.length_append, List.length_singleton]; have := HK.out.1.few; omega, HB3.out⟩⟩
        · have hjz : ¬ b ≤ (n : Int) := by have := HA.out; have := HB.out; omega
          obtain rfl : j = n - i := by omega
          go_wp2
          go_roundg (n - (i + 1))
          case measure => omega
          case rel => exact ⟨i + 1, a + 1, ps, by go_num, by omega, by omega, ⟨by have := HA.out; omega⟩, ⟨HS.out.has, by rw [impl_pairsThat.all_succ]; exact HS.out.val, by have := HS.out.few; omega, HS.out.bel⟩⟩
    · have hiz : ¬ a ≤ (n : Int) := by have := HA.out; omega
      obtain rfl : i = n := by omega
      go_wp2
      go_ret
      exact ⟨_, rfl, _, HS.out.has, HS.out.val, HS.out.bel⟩

end Go.Proofs.Ytlkbphhmahipdaa.P
