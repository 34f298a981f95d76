/- Calls of the functions of the given program return what the plain Lean functions of the same names return; and a row of a law out of its pure statement. Written by a program of this session out of the translation; Lean checks it. No condition. -/
import Derived.Test.YtllihaahppelhaaDoorPx0
import Derived.Test.YtllihaahppelhaaDoorPxHslicesqIndexFuncqintqint
import Derived.Test.YtllihaahppelhaaDoorHlp
import Derived.Shelf.Abstract
import Derived.Lib.SliceRun
namespace Go.Proofs.YtllihaahppelhaaDoor.P
open Go.RowKit Go.Proofs.YtllihaahppelhaaDoorW.PrintWords Go.Proofs.YtllihaahppelhaaDoorW.PrintLast Go.Proofs.YtllihaahppelhaaDoorW.PrintMore
attribute [local go_sem] max2_int min2_int max_two min_two max_three min_three max_four min_four   -- for this text's walks alone
set_option linter.unusedVariables false
set_option linter.unusedSimpArgs false

/-! ### slices_DeleteFunc_int_int: function 35, by hand -/
-- IMPORT Derived.Test.YtllihaahppelhaaDoorHlp
-- IMPORT Derived.Shelf.Abstract
-- IMPORT Derived.Lib.SliceRun
set_option maxHeartbeats 4000000 in
/-- slices.DeleteFunc at []int, on a row of the caller's own: what is left is in front, in order; whatever predicate makes no more than new blocks. -/
theorem slices_DeleteFunc_int_int.any (p : Int → Bool) (g : Nat) (lb : Array Value) (eg : ∀ args w, (callFunc g args).run Tryd.prog w = .ok (.enter g args) w) (base gb cap : Nat) (l : List Int) (w : World)
    (ho : w.ownsRow base 3 1 (.slice (some ⟨gb, 0, none⟩) l.length cap) l.length (nums .i64 l))
    (hp : ∀ x, x ∈ l → ∀ W, w.grownBy W (some gb) → Calls Tryd.prog g (#[.int .i64 x] ++ lb) W fun e w' => e = .returned (.bool (p x)) ∧ Below W.heap.size W w') :
    Calls Tryd.prog 35 #[.slice (some ⟨gb, 0, none⟩) l.length cap, .func (.func g) #[] lb] w fun e w' =>
      e = .returned (.slice (some ⟨gb, 0, none⟩) (l.filter fun x => !p x).length cap) ∧ w'.ownsRow base 3 1 (.slice (some ⟨gb, 0, none⟩) (l.filter fun x => !p x).length cap) (l.filter fun x => !p x).length (nums .i64 (l.filter fun x => !p x)) ∧ w.grownBy w' (some gb) := by
  have hrd := own_reads' ho
  have hr0 : Kd.C (Kd.int .i64) w (some ⟨gb, 0, none⟩) l.length l := Kd.C_of_reads (d := (0 : Int)) (h1 := fun _ => rfl) hrd
  have hcon := slices_IndexFunc_int_int.any p g lb eg (some ⟨gb, 0, none⟩) cap l w hr0 (fun x hx W hW => hp x hx W (grown_of_below hW _))
  have hlen := hrd.2.1
  have z3 : ∀ w, (zeroValue 3).run Tryd.prog w = .ok (.int .i64 0) w := Tryd.zeroValue3
  have HCON : Aside0 _ := ⟨hcon⟩
  have HO : Aside0 _ := ⟨ho⟩
  have HP : Aside0 _ := ⟨hp⟩
  clear hcon ho hp hrd hr0
  cases hfi : l.findIdx? p with
  | none =>
    have hall : (l.filter fun x => !p x) = l := by
      rw [List.filter_eq_self]
      intro x hx
      simp [List.findIdx?_eq_none_iff.1 hfi x hx]
    have hf : Hlp.fidx p l = -1 := by unfold Hlp.fidx; rw [hfi]
    rw [hf] at HCON
    rw [hall]
    clear hall hf hfi
    go_enter Tryd.func35, Tryd.ntmps35
    go_wp2_with (go_at_call 45; refine HCON.out.mono ?_; rintro e w1 ⟨rfl, hb⟩; have HB : Aside0 (Below w.heap.size w w1) := ⟨hb⟩; clear hb)
    go_ret
    exact ⟨rfl, pw_own_below HO.out HB.out, grown_of_below HB.out _⟩
  | some k0 =>
    obtain ⟨hk0, hpk, hbef⟩ := List.findIdx?_eq_some_iff_getElem.1 hfi
    have hf : Hlp.fidx p l = (k0 : Int) := by unfold Hlp.fidx; rw [hfi]
    rw [hf] at HCON
    have hne1 : ((k0 : Int) == -1) = false := beq_eq_false_iff_ne.2 (by omega)
    have hstart : l.take k0 = (l.take (k0 + 1)).filter fun x => !p x := by
      rw [List.take_succ_eq_append_getElem hk0, List.filter_append]
      have h1 : (l.take k0).filter (fun x => !p x) = l.take k0 := by
        rw [List.filter_eq_self]
        intro x hx
        obtain ⟨j, hj, rfl⟩ := List.mem_iff_getElem.1 hx
        rw [List.length_take] at hj
        rw [List.getElem_take]
        have := hbef j (by omega)
        simpa using this
      rw [h1]
      simp [hpk]
    have ST : Aside0 _ := ⟨hstart⟩
    clear hf hfi hpk hbef hstart
    go_enter Tryd.func35, Tryd.ntmps35
    go_wp2_with (go_at_call 45; refine HCON.out.mono ?_; rintro e w1 ⟨rfl, hb⟩; have HB : Aside0 (Below w.heap.size w w1) := ⟨hb⟩; clear hb)
    go_loopg [5, 6, 7] l.length (fun gg s5 s6 _ wr => ∃ (i j : Nat) (dk : List Int), s5 = .int .i64 i ∧ s6 = .int .i64 j ∧ i < j ∧ j ≤ l.length ∧ l.length - j ≤ gg ∧ dk.length = l.length ∧
      Aside0 (wr.ownsRow base 3 1 (.slice (some ⟨gb, 0, none⟩) l.length cap) l.length (nums .i64 dk)) ∧ Aside0 (w.grownBy wr (some gb)) ∧ Aside0 (dk.take i = (l.take j).filter fun x => !p x) ∧ Aside0 (dk.drop j = l.drop j))
    case atStart => exact ⟨k0, k0 + 1, l, rfl, by go_num, by omega, by omega, by omega, rfl, ⟨pw_own_below HO.out HB.out⟩, ⟨grown_of_below HB.out _⟩, ⟨ST.out⟩, ⟨rfl⟩⟩
    case round =>
      obtain ⟨i, j, dk, rfl, rfl, hij, hjd, hgg, hdl, O, G, T, D⟩ := hrel
      have DL : Aside0 (dk.length = l.length) := ⟨hdl⟩
      clear hdl
      by_cases hlt : j < l.length
      · have hltz : (j : Int) < (l.length : Int) := by omega
        have hj2 : j < dk.length := by rw [DL.out]; exact hlt
        have hdj : dk[j] = l[j] := by
          have := congrArg (fun x => x[0]?) D.out
          simpa [List.getElem?_eq_getElem hj2, List.getElem?_eq_getElem hlt] using this
        have cj : wr.cell? ⟨gb, j, none⟩ = some (.int .i64 l[j]) := by
          have := (own_at O.out (j : Int) (by omega) (by omega)).1
          rw [Int.toNat_natCast] at this
          rw [this, ← hdj]
          simp [rd, List.getD_eq_getElem?_getD, List.getElem?_eq_getElem hj2]
        have ci : wr.cell? ⟨gb, i, none⟩ = some (.int .i64 (rd dk i)) := by
          have := (own_at O.out (i : Int) (by omega) (by omega)).1
          rwa [Int.toNat_natCast] at this
        have fi : wr.frozen? ⟨gb, i, none⟩ = false := by
          have := (own_at O.out (i : Int) (by omega) (by omega)).2
          rwa [Int.toNat_natCast] at this
        have hcall := HP.out l[j] (List.getElem_mem hlt) wr G.out
        have TJ : Aside0 (l.take (j + 1) = l.take j ++ [l[j]]) := ⟨List.take_succ_eq_append_getElem hlt⟩
        have DJ : Aside0 (dk.drop (j + 1) = l.drop (j + 1)) := ⟨by
          have := congrArg (List.drop 1) D.out
          simpa [List.drop_drop, Nat.add_comm] using this⟩
        clear hdj hj2
        generalize l[j] = y at cj hcall TJ
        generalize rd dk i = old at ci
        cases hq : p y with
        | false =>
          rw [hq] at hcall
          have Q : Aside0 (p y = false) := ⟨hq⟩
          clear hq
          go_wp2_with (go_at_fn g; refine hcall.mono ?_; rintro e w2 ⟨rfl, hb⟩; have HB2 : Aside0 (Below wr.heap.size wr w2) := ⟨hb⟩; have ci2 : w2.cell? ⟨gb, i, none⟩ = some (.int .i64 old) := pw_cell_below hb ci; have fi2 : w2.frozen? ⟨gb, i, none⟩ = false := (own_at (pw_own_below O.out hb) (i : Int) (by omega) (by omega)).2; clear hb ci fi cj)
          go_roundg (l.length - (j + 1))
          case measure => omega
          case rel =>
            have h1 := own_store (pw_own_below O.out HB2.out) (i : Int) y
            rw [Int.toNat_natCast] at h1
            refine ⟨i + 1, j + 1, dk.set i y, by go_num, by go_num, by omega, by omega, Nat.le_refl _, by rw [List.length_set]; exact DL.out, ⟨h1.1⟩, ⟨World.grownBy.trans G.out (World.grownBy.trans (grown_of_below HB2.out _) h1.2)⟩, ⟨?_⟩, ⟨?_⟩⟩
            · have hi2 : i < dk.length := by rw [DL.out]; omega
              rw [List.take_succ_eq_append_getElem (by rw [List.length_set]; exact hi2), List.getElem_set_self, List.take_set_of_le (Nat.le_refl _), T.out, TJ.out, List.filter_append]
              simp [Q.out]
            · rw [List.drop_set_of_lt (by omega)]
              exact DJ.out
        | true =>
          rw [hq] at hcall
          have Q : Aside0 (p y = true) := ⟨hq⟩
          clear hq ci fi
          go_wp2_with (go_at_fn g; refine hcall.mono ?_; rintro e w2 ⟨rfl, hb⟩; have HB2 : Aside0 (Below wr.heap.size wr w2) := ⟨hb⟩; clear hb cj)
          go_roundg (l.length - (j + 1))
          case measure => omega
          case rel =>
            refine ⟨i, j + 1, dk, rfl, by go_num, by omega, by omega, Nat.le_refl _, DL.out, ⟨pw_own_below O.out HB2.out⟩, ⟨World.grownBy.trans G.out (grown_of_below HB2.out _)⟩, ⟨?_⟩, ⟨DJ.out⟩⟩
            rw [T.out, TJ.out, List.filter_append]
            simp [Q.out]
      · obtain rfl : j = l.length := by omega
        have hltz : ¬ (l.length : Int) < (l.length : Int) := by omega
        have hcl : ∀ ty, (Builtin.clear_ #[45] ty #[.slice (some ⟨gb, i, none⟩) (l.length - i) (cap - i)]).run Tryd.prog wr = .ok (.tuple #[]) (wr.setCells gb i (List.replicate (l.length - i) (.int .i64 0))) :=
          fun ty => Lib.run_clear_slice wr _ _ ty _ Tryd.underlying45 z3 rfl rfl gb i _ _ (by omega)
            (fun t ht => by
              have := (own_at O.out ((i + t : Nat) : Int) (by omega) (by omega)).1
              rw [Int.toNat_natCast] at this
              rw [this]; rfl)
            (fun t ht => by
              have := (own_at O.out ((i + t : Nat) : Int) (by omega) (by omega)).2
              rwa [Int.toNat_natCast] at this)
        have hroom : l.length ≤ cap := by
          rcases O.out.2 with ⟨h3, _⟩ | ⟨g', cap', cur, h3, _, _, h4, _⟩
          · cases h3
          · injection h3 with _ _ h9
            omega
        have hcz : (i : Int) ≤ (cap : Int) := by omega
        have hiz : (i : Int) ≤ (l.length : Int) := by omega
        go_wp2
        go_ret
        have hfin := Hlp.own_cleared (List.replicate (l.length - i) (.int .i64 0)) O.out (show i ≤ l.length by omega)
        have e1 : (l.filter fun x => !p x) = dk.take i := by rw [T.out, List.take_length]
        have e2 : (dk.take i).length = i := by rw [List.length_take, DL.out]; omega
        have e3 : (nums .i64 dk).take i = nums .i64 (dk.take i) := by simp [nums, List.map_take]
        rw [e1, e2, ← e3]
        exact ⟨rfl, hfin.1, World.grownBy.trans G.out hfin.2⟩
set_option maxHeartbeats 1000000 in
/-- The same at a row that may be nil. -/
theorem slices_DeleteFunc_int_int.row (p : Int → Bool) (g : Nat) (lb : Array Value) (eg : ∀ args w, (callFunc g args).run Tryd.prog w = .ok (.enter g args) w) (base : Nat) (v : Value) (l : List Int) (w : World)
    (ho : w.ownsRow base 3 1 v l.length (nums .i64 l))
    (hp : ∀ x, x ∈ l → ∀ W, w.grownBy W v.ownBlock → Calls Tryd.prog g (#[.int .i64 x] ++ lb) W fun e w' => e = .returned (.bool (p x)) ∧ Below W.heap.size W w') :
    Calls Tryd.prog 35 #[v, .func (.func g) #[] lb] w fun e w' =>
      ∃ v' : Value, e = .returned v' ∧ w'.ownsRow base 3 1 v' (l.filter fun x => !p x).length (nums .i64 (l.filter fun x => !p x)) ∧ w.grownBy w' v.ownBlock := by
  rcases ho.2 with ⟨rfl, h0⟩ | ⟨gb, cap, cur, rfl, _⟩
  · obtain rfl : l = [] := List.eq_nil_of_length_eq_zero h0
    have hcon := slices_IndexFunc_int_int.any p g lb eg none 0 [] w (Kd.C_nil _ _) (fun x hx => by cases hx)
    have hf : Hlp.fidx p [] = -1 := rfl
    rw [hf] at hcon
    have HCON : Aside0 _ := ⟨hcon⟩
    clear hcon hp ho h0 hf
    go_enter Tryd.func35, Tryd.ntmps35
    go_wp2_with (go_at_call 45; refine HCON.out.mono ?_; rintro e w1 ⟨rfl, hb⟩; have HB : Aside0 (Below w.heap.size w w1) := ⟨hb⟩; clear hb)
    go_ret
    exact ⟨_, rfl, own_nil _ _ _ _, grown_of_below HB.out _⟩
  · exact (slices_DeleteFunc_int_int.any p g lb eg base gb cap l w ho hp).mono fun e w' h => ⟨_, h.1, h.2.1, h.2.2⟩

end Go.Proofs.YtllihaahppelhaaDoor.P
