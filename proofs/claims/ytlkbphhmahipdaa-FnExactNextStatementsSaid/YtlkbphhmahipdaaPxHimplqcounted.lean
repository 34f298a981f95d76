/- Calls of the functions of the given program return what the plain Lean functions of the same names return; and a row of a law out of its pure statement. Written by a program of this session out of the translation; Lean checks it. No condition. -/
import Derived.Test.YtlkbphhmahipdaaPx0
import Derived.Test.YtlkbphhmahipdaaPx10
import Derived.Test.YtlkbphhmahipdaaTk
import Derived.Test.YtlkbphhmahipdaaMp
namespace Go.Proofs.Ytlkbphhmahipdaa.P
open Go.RowKit Go.Proofs.YtlkbphhmahipdaaW.PrintWords Go.Proofs.YtlkbphhmahipdaaW.PrintLast Go.Proofs.YtlkbphhmahipdaaW.PrintMore
attribute [local go_sem] max2_int min2_int max_two min_two max_three min_three max_four min_four   -- for this text's walks alone
set_option linter.unusedVariables false
set_option linter.unusedSimpArgs false

/-! ### impl_counted: function 110, by hand -/
-- IMPORT Derived.Test.YtlkbphhmahipdaaTk
-- IMPORT Derived.Test.YtlkbphhmahipdaaMp
theorem impl_value.told (s : Bool) (p : Tk.PP) (h : (1 ≤ p.2.1 ∧ p.2.1 ≤ 40) ∧ (1 ≤ p.2.2 ∧ p.2.2 ≤ 40)) : impl_value.f (Tk.vl p) (Tk.wh s) = some (Tk.tv s (Tk.vl p)) := by
  have hb := Tk.tv_bd s p h
  cases s with
  | true =>
    have e : wrap64 (rd (Tk.vl p) 0 + rd (Tk.vl p) 1) = rd (Tk.vl p) 0 + rd (Tk.vl p) 1 := by simp [Tk.tv] at hb; unfold wrap64; omega
    simp [impl_value.f, Tk.vl, Tk.wh, Tk.tv] at e ⊢
    exact e
  | false =>
    have e : wrap64 (rd (Tk.vl p) 0 * rd (Tk.vl p) 1) = rd (Tk.vl p) 0 * rd (Tk.vl p) 1 := by simp [Tk.tv] at hb; unfold wrap64; omega
    simp [impl_value.f, Tk.vl, Tk.wh, Tk.tv] at e ⊢
    exact e
theorem impl_counted.step (s : Bool) (ps : List Tk.PP) (i : Nat) (hi : i < ps.length) : (fun y => if y = Tk.tv s (Tk.vl ps[i]) then ((Tk.cnt s (Tk.vals (ps.take i)) (Tk.tv s (Tk.vl ps[i])) : Int) + 1) else (Tk.cnt s (Tk.vals (ps.take i)) y : Int)) = fun y => (Tk.cnt s (Tk.vals (ps.take (i + 1))) y : Int) := by
  funext y
  rw [List.take_succ_eq_append_getElem hi]
  simp only [Tk.vals, Tk.cnt, List.map_append, List.map_cons, List.map_nil, List.countP_append, List.countP_cons, List.countP_nil]
  by_cases e : y = Tk.tv s (Tk.vl ps[i])
  · subst e; simp
  · have e' : ¬ Tk.tv s (Tk.vl ps[i]) = y := fun h => e h.symm
    simp [e, e']
set_option maxHeartbeats 4000000 in
set_option maxRecDepth 100000 in
theorem impl_counted.has (s : Bool) (base lo : Nat) (A : Option Addr) (c : Nat) (ps : List Tk.PP) (w : World) (hH : Tk.Has 36 3 w base lo (.slice A ps.length c) ps) (hok : Tk.Ok ps) :
    Calls Try.prog 110 #[.slice A ps.length c, .string (Tk.wh s)] w fun e w' => ∃ B, e = .returned (.map (some B)) ∧ Mp.MapI Try.prog 3 3 w' B ps.length (fun y => (Tk.cnt s (Tk.vals ps) y : Int)) ∧ w.heap.size ≤ B ∧ Below w.heap.size w w' := by
  have hm := fun (w : World) => Mp.MapI.made Try.prog 3 3 w
  have hmm := @run_makeMap Try.prog
  have HH := Aside0.mk hH
  have HO := Aside0.mk hok
  have hlen : ps.length ≤ 2000 := hok.1
  have HM := Aside0.mk hm
  clear hH hok hm
  generalize hwh : Tk.wh s = wo
  have HW := Aside0.mk hwh
  clear hwh
  go_enter Try.func110, Try.ntmps110
  go_wp2
  go_loopg [11] ps.length (fun gg s11 wr => ∃ k : Nat, s11 = .int .i64 (k : Int) ∧ k ≤ ps.length ∧ ps.length - k ≤ gg ∧ Aside0 (Mp.MapI Try.prog 3 3 wr w.heap.size k (fun y => (Tk.cnt s (Tk.vals (ps.take k)) y : Int))) ∧ Aside0 (Below w.heap.size w wr))
  case atStart => exact ⟨0, rfl, Nat.zero_le _, by omega, ⟨by simpa [Tk.vals, Tk.cnt] using HM.out w⟩, ⟨(Below.refl _ _).alloc (Nat.le_refl _) _⟩⟩
  case round =>
    obtain ⟨k, rfl, hk, hgg, HI, HB⟩ := hrel
    by_cases hi : k < ps.length
    · have hkz : (k : Int) < (ps.length : Int) := by omega
      have hH := HH.out.below HB.out
      obtain ⟨g, cap, ev, hcell⟩ := hH.at_ k hi
      obtain ⟨rfl, rfl⟩ : A = some ⟨g, 0, none⟩ ∧ c = cap := by injection ev with e1 e2 e3; exact ⟨e1, e3⟩
      have hbd := HO.out.2 ps[k] (List.getElem_mem hi)
      have htv := Tk.tv_bd s ps[k] hbd
      have hval := impl_value.calls (some ⟨ps[k].1, 0, none⟩) 2 (Tk.vl ps[k]) (Tk.wh s) (Tk.tv s (Tk.vl ps[k])) wr (hH.inn.C ps[k] (List.getElem_mem hi)) (by simp [Tk.vl]) (impl_value.told s ps[k] hbd)
      have hst := impl_counted.step s ps k hi
      have hcl := Tk.cnt_le s (Tk.vals (ps.take k)) (Tk.tv s (Tk.vl ps[k]))
      rw [Tk.vals_len, List.length_take] at hcl
      have hl2 : (Tk.vl ps[k]).length = 2 := rfl
      rw [hl2, HW.out] at hval
      have HV : Aside0 (Calls Try.prog 102 #[.slice (some ⟨ps[k].1, 0, none⟩) 2 2, .string wo] wr fun e w2 => e = .returned (.int .i64 (Tk.tv s (Tk.vl ps[k]))) ∧ (Instr.lookup 100 (.map (some w.heap.size)) (.int .i64 (Tk.tv s (Tk.vl ps[k]))) false).run Try.prog w2 = .ok (.int .i64 (Tk.cnt s (Tk.vals (ps.take k)) (Tk.tv s (Tk.vl ps[k])) : Int)) w2 ∧
          ∃ w3, (Instr.mapUpdate 100 (.map (some w.heap.size)) (.int .i64 (Tk.tv s (Tk.vl ps[k]))) (.int .i64 ((Tk.cnt s (Tk.vals (ps.take k)) (Tk.tv s (Tk.vl ps[k])) : Int) + 1))).run Try.prog w2 = .ok () w3 ∧ Aside0 (Mp.MapI Try.prog 3 3 w3 w.heap.size (k + 1) (fun y => (Tk.cnt s (Tk.vals (ps.take (k + 1))) y : Int)) ∧ Below w.heap.size w w3)) := ⟨hval.mono fun e w2 he => by
        obtain ⟨rfl, hd⟩ := he
        have hm2 := HI.out.below hd.below
        have hx := Tk.wf64 (Tk.tv s (Tk.vl ps[k])) (by omega)
        obtain ⟨w3, hup, hm3, hg3⟩ := hm2.put (t := 100) Try.underlying3 Try.underlying3 Try.underlying100 (by unfold maxLen; omega) (Tk.tv s (Tk.vl ps[k])) ((Tk.cnt s (Tk.vals (ps.take k)) (Tk.tv s (Tk.vl ps[k])) : Int) + 1) hx (Tk.wf64 _ (by omega))
        rw [hst] at hm3
        exact ⟨rfl, hm2.look (t := 100) Try.underlying3 Try.underlying3 Try.underlying100 (fun w => by kernel_rfl) _ hx, w3, hup, ⟨hm3, (below_step HB.out hd.below).grown hg3 (by have := HB.out.size; have := hd.below.size; omega) (fun j hj => by cases hj; exact Nat.le_refl _)⟩⟩⟩
      generalize hd : (Tk.cnt s (Tk.vals (ps.take k)) (Tk.tv s (Tk.vl ps[k])) : Int) = d at HV
      have hd0 : 0 ≤ d ∧ d ≤ 2000 := by omega
      obtain ⟨hd1, hd2⟩ := hd0
      generalize Tk.tv s (Tk.vl ps[k]) = x at HV
      unfold Tk.cv at hcell
      clear hst hcl hval htv hbd hH hl2 hd ev
      go_wp2_with (go_at_call 102; refine HV.out.mono ?_; rintro e w2 ⟨rfl, hlk, w3, hup, H3⟩; clear HV)
      go_roundg (ps.length - (k + 1))
      case measure => omega
      case rel => exact ⟨k + 1, by go_num, by omega, Nat.le_refl _, ⟨H3.out.1⟩, ⟨H3.out.2⟩⟩
    · have hkz : ¬ (k : Int) < (ps.length : Int) := by omega
      obtain rfl : k = ps.length := by omega
      go_wp2
      go_ret
      exact ⟨_, rfl, by have := HI.out; rwa [List.take_length] at this, Nat.le_refl _, HB.out⟩

end Go.Proofs.Ytlkbphhmahipdaa.P
