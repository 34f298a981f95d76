/- Calls of the functions of the given program return what the plain Lean functions of the same names return; and a row of a law out of its pure statement. Written by a program of this session out of the translation; Lean checks it. No condition. -/
import Derived.Test.YtlkbphhmahipdaaPk0
import Derived.Test.YtlkbphhmahipdaaG1
import Derived.Test.YtlkbphhmahipdaaG2
import Derived.Test.YtlkbphhmahipdaaPk25
import Derived.Test.YtlkbphhmahipdaaTk
import Derived.Test.YtlkbphhmahipdaaKm
import Derived.Test.YtlkbphhmahipdaaKn
import Derived.Test.YtlkbphhmahipdaaG0
import Derived.BigQuiet
namespace Go.Proofs.Ytlkbphhmahipdaa.P
open Go.RowKit Go.Proofs.YtlkbphhmahipdaaW.PrintWords Go.Proofs.YtlkbphhmahipdaaW.PrintLast Go.Proofs.YtlkbphhmahipdaaW.PrintMore
attribute [local go_sem] max2_int min2_int max_two min_two max_three min_three max_four min_four   -- for this text's walks alone
set_option linter.unusedVariables false
set_option linter.unusedSimpArgs false

/-! ### impl_knowing: function 88, by hand -/
-- IMPORT Derived.Test.YtlkbphhmahipdaaTk
-- IMPORT Derived.Test.YtlkbphhmahipdaaKm
-- IMPORT Derived.Test.YtlkbphhmahipdaaKn
theorem impl_knowing.fits : Go.WideMaps.ArrKey Try.prog 87 3 2 := ⟨Try.underlying87, by kernel_rfl, by kernel_rfl, by kernel_rfl⟩
theorem impl_knowing.sized : ∃ m, Try.prog.types.size = m + 1 := by
  have h : decide (0 < Try.prog.types.size) = true := by kernel_rfl
  have h := of_decide_eq_true h
  exact ⟨Try.prog.types.size - 1, by omega⟩
theorem impl_knowing.grown {ts te : TypeId} {W W' : World} {base lo M : Nat} {v : Value} {ps : List Tk.PP} (h : Tk.Has ts te W base lo v ps) (hg : W.grownBy W' (some M)) (h1 : M < base) (h2 : M < lo) : Tk.Has ts te W' base lo v ps := by
  refine ⟨⟨h.row.1, ?_⟩, fun p hp => ?_, h.nod, h.ap⟩
  · rcases h.row.2 with h3 | ⟨g', cap', cur, h3, h4, h5, h6⟩
    · exact .inl h3
    · refine .inr ⟨g', cap', cur, h3, h4, (hg.block g' (Array.getElem?_eq_some_iff.1 h5).1 (fun e => ?_)).trans h5, h6⟩
      injection e with e
      omega
  · obtain ⟨h3, h4⟩ := h.inn p hp
    refine ⟨h3, (hg.block p.1 (Array.getElem?_eq_some_iff.1 h4).1 (fun e => ?_)).trans h4⟩
    injection e with e
    omega
theorem impl_left.two (n : Nat) : Kn.Two (impl_left.pairs n) := fun x hx => by
  obtain ⟨a, b, rfl, _⟩ := impl_left.all_mem _ n x hx
  rfl
theorem impl_left.nodup (n : Nat) : (impl_left.pairs n).Nodup := by
  unfold impl_left.pairs impl_pairsThat.all
  rw [List.Nodup, List.pairwise_flatMap]
  refine ⟨fun i _ => ?_, ?_⟩
  · unfold impl_pairsThat.row
    rw [List.pairwise_map]
    refine List.Pairwise.imp ?_ (List.Pairwise.filter _ List.nodup_range)
    intro a b h e
    injection e with _ e
    injection e with e
    omega
  · refine List.Pairwise.imp ?_ List.nodup_range
    intro i j h x hx y hy e
    subst e
    obtain ⟨a, _, e1⟩ := impl_left.row_mem _ _ _ _ hx
    obtain ⟨b, _, e2⟩ := impl_left.row_mem _ _ _ _ hy
    rw [e1] at e2
    injection e2 with e2
    omega
theorem impl_left.pairs_le (n : Nat) (hn : n ≤ 40) : (impl_left.pairs n).length ≤ 1600 := by
  have h1 := impl_left.all_len (fun _ _ => true) n n
  have : n * n ≤ 40 * 40 := Nat.mul_le_mul hn hn
  unfold impl_left.pairs
  omega
theorem impl_otherWho.told (b : Bool) : impl_otherWho.f (Tk.wh b) = some (Tk.wh (!b)) := by
  cases b <;> simp [impl_otherWho.f, Tk.wh]
/-- An entry of the map. -/
def impl_knowing.ent (k : Int) (x : List Int) : Int × Int × Int := (rd x 0, rd x 1, k)
set_option maxHeartbeats 4000000 in
set_option maxRecDepth 100000 in
theorem impl_knowing.has (n : Nat) (hn : n ≤ 40) (s : Bool) (w : World) :
    Calls Try.prog 88 #[.int .i64 (n : Int), .string (Tk.wh s)] w fun e w' => ∃ M : Nat, e = .returned (.map (some M)) ∧ Aside0 (∃ N, Km.MapK w' M (Kn.known (impl_left.pairs n) s N) ∧ 2 ≤ Kn.still (impl_left.pairs n) s N ∧ N ≤ 4000 ∧ Below w.heap.size w w') := by
  have HA := Aside0.mk (fun W => impl_allPairs.has n hn W)
  have HL := Aside0.mk (impl_left.pairs_le n hn)
  have HT := Aside0.mk (impl_left.two n)
  have HD := Aside0.mk (impl_left.nodup n)
  have HK := Aside0.mk (fun ps => impl_left.ok_all (fun _ _ => true) n hn ps)
  have HMM := Aside0.mk (fun (w : World) => Km.MapK.made w)
  have hmm := @run_makeMap Try.prog
  have HW0 : Aside0 (∃ wo, wo = Tk.wh s) := ⟨_, rfl⟩
  obtain ⟨wo0, hwo⟩ := HW0.out
  have HW := Aside0.mk hwo
  rw [← hwo]
  clear HW0 hwo
  have HO : Aside0 (∀ (b : Bool) (wo : ByteArray) W, wo = Tk.wh b → Calls Try.prog 89 #[.string wo] W fun e w' => ∃ wx, e = .returned (.string wx) ∧ ∃ j, w' = W.drewN j ∧ Aside0 (wx = Tk.wh (!b))) := ⟨fun b wo W e => by
    subst e
    exact (impl_otherWho.calls (Tk.wh b) _ W (impl_otherWho.told b)).mono fun e w' h => by
      obtain ⟨j, hj⟩ := h.2.out
      exact ⟨_, h.1, j, hj, ⟨rfl⟩⟩⟩
  go_enter Try.func88, Try.ntmps88
  go_wp2_with (go_at_call 92; refine (HA.out _).mono ?_; rintro e w2 ⟨v, rfl, h⟩; have H := Aside0.mk h; clear h)
  go_loopg [1, 6, 7, 8] (Kn.pot (impl_left.pairs n) s 0) (fun gg s1 s6 s7 s8 wr => ∃ (k b lo c : Nat) (st kk : Int) (wo : ByteArray) (A : Option Addr) (ps : List Tk.PP), s1 = .string wo ∧ s6 = .slice A ps.length c ∧ s7 = .int .i64 st ∧ s8 = .int .i64 kk ∧ Aside0 (wo = Tk.wh (Kn.alt s k) ∧ st = (Kn.still (impl_left.pairs n) s k : Int) ∧ kk = (k : Int) + 1) ∧ Kn.pot (impl_left.pairs n) s k ≤ gg ∧ Aside0 (∀ j, j < k → Kn.still (impl_left.pairs n) s j < 2) ∧ Aside0 (Tk.Has 36 3 wr b lo (.slice A ps.length c) ps ∧ Tk.vals ps = Kn.rests (impl_left.pairs n) s k ∧ Tk.Ok ps ∧ w.heap.size < b ∧ w.heap.size < lo) ∧ Aside0 (Km.MapK wr w.heap.size (Kn.known (impl_left.pairs n) s k) ∧ Below w.heap.size w wr))
  case atStart =>
    obtain ⟨ps, h1, h2, h3⟩ := H.out
    obtain ⟨A, c, rfl, _, _⟩ := h1.slice
    refine ⟨0, _, _, c, 0, 1, wo0, A, ps, rfl, rfl, rfl, rfl, ⟨HW.out, by simp [Kn.still], by simp⟩, Nat.le_refl _, ⟨fun j hj => absurd hj (Nat.not_lt_zero j)⟩, ⟨h1, h2, HK.out ps h2, by simp, by simp⟩, ⟨?_, ?_⟩⟩
    · exact (HMM.out w).below h3
    · exact below_step ((Below.refl _ _).alloc (Nat.le_refl _) _) h3
  case round =>
    obtain ⟨k, b, lo, c, st, kk, wo, A, ps, rfl, rfl, rfl, rfl, HE, hgg, HJ, HP, HM⟩ := hrel
    clear H HMM HA
    have hN := Kn.pot_bd (A := impl_left.pairs n) (s := s) k HJ.out
    have hk : k ≤ 4000 := by have := HL.out; omega
    clear hN
    by_cases hs2 : Kn.still (impl_left.pairs n) s k < 2
    · have hst : st < 2 := by have := HE.out.2.1; omega
      have hst0 : 0 ≤ st := by have := HE.out.2.1; omega
      have hkk0 : 0 ≤ kk := by have := HE.out.2.2; omega
      have hkk1 : kk ≤ 5000 := by have := HE.out.2.2; omega
      have HS2 := Aside0.mk hs2
      have HPT := Aside0.mk (Kn.pot_succ hs2)
      clear hs2 hk
      obtain ⟨qs, hqs⟩ : ∃ qs, qs = impl_behind.sel (Kn.alt s k) 43 ps := ⟨_, rfl⟩
      obtain ⟨rs, hrs⟩ : ∃ rs, rs = impl_behind.sel (Kn.alt s k) 45 ps := ⟨_, rfl⟩
      have T1 : Aside0 (Calls Try.prog 78 #[.slice A ps.length c, .string wo, .int .u8 43] wr fun e w' => ∃ A1 c1, e = .returned (.slice A1 qs.length c1) ∧ Aside0 (Tk.Has 36 3 w' wr.heap.size lo (.slice A1 qs.length c1) qs ∧ Below wr.heap.size wr w')) := ⟨by
        rw [HE.out.1]
        refine (impl_behind.has (Kn.alt s k) 43 b lo _ ps wr HP.out.1 HP.out.2.2.1 (by decide)).mono fun e w' he => ?_
        obtain ⟨v', rfl, h1, h2⟩ := he
        rw [← hqs] at h1
        obtain ⟨A1, c1, rfl, _, _⟩ := h1.slice
        exact ⟨A1, c1, rfl, ⟨h1, h2⟩⟩⟩
      have T2 : Aside0 (∀ W, Tk.Has 36 3 W b lo (.slice A ps.length c) ps → Calls Try.prog 78 #[.slice A ps.length c, .string wo, .int .u8 45] W fun e w' => ∃ A1 c1, e = .returned (.slice A1 rs.length c1) ∧ Aside0 (Tk.Has 36 3 w' W.heap.size lo (.slice A1 rs.length c1) rs ∧ Below W.heap.size W w')) := ⟨fun W hW => by
        rw [HE.out.1]
        refine (impl_behind.has (Kn.alt s k) 45 b lo _ ps W hW HP.out.2.2.1 (by decide)).mono fun e w' he => ?_
        obtain ⟨v', rfl, h1, h2⟩ := he
        rw [← hrs] at h1
        obtain ⟨A1, c1, rfl, _, _⟩ := h1.slice
        exact ⟨A1, c1, rfl, ⟨h1, h2⟩⟩⟩
      have HQ : Aside0 (Tk.vals qs = Tk.say (Kn.alt s k) 43 (Kn.rests (impl_left.pairs n) s k) ∧ Tk.vals rs = Kn.rests (impl_left.pairs n) s (k + 1) ∧ Tk.Ok rs ∧ Tk.Ok qs) := ⟨by
        rw [hqs, hrs, impl_behind.sel_vals, impl_behind.sel_vals, HP.out.2.1]
        exact ⟨rfl, rfl, impl_behind.sel_ok _ _ _ HP.out.2.2.1, impl_behind.sel_ok _ _ _ HP.out.2.2.1⟩⟩
      have hql : qs.length ≤ 2000 := HQ.out.2.2.2.1
      have hrl : rs.length ≤ 2000 := HQ.out.2.2.1.1
      have hpl : ps.length ≤ 2000 := HP.out.2.2.1.1
      have hM0 := HM.out.1.lt
      have HM0 := Aside0.mk hM0
      clear hM0 hqs hrs
      go_wp2_with (go_at_call 78; refine T1.out.mono ?_; rintro e w2 ⟨A1, c1, rfl, H1⟩; clear T1)
      go_loopg [23] qs.length (fun gg s23 wi => ∃ i : Nat, s23 = .int .i64 (i : Int) ∧ i ≤ qs.length ∧ qs.length - i ≤ gg ∧ Aside0 (Km.MapK wi w.heap.size (Kn.known (impl_left.pairs n) s k ++ ((Tk.vals qs).take i).map (impl_knowing.ent kk)) ∧ w2.grownBy wi (some w.heap.size)))
      case atStart => exact ⟨0, rfl, Nat.zero_le _, by omega, ⟨by simpa using HM.out.1.below H1.out.2, ⟨rfl, rfl, rfl, Nat.le_refl _, fun _ _ _ => rfl⟩⟩⟩
      case round =>
        obtain ⟨i, rfl, hi, hgi, HI⟩ := hrel
        by_cases hil : i < qs.length
        · have hiz : (i : Int) < (qs.length : Int) := by omega
          have hH := impl_knowing.grown H1.out.1 HI.out.2 HM0.out HP.out.2.2.2.2
          obtain ⟨g, cap, ev, hcell⟩ := hH.at_ i hil
          obtain ⟨rfl, rfl⟩ : A1 = some ⟨g, 0, none⟩ ∧ c1 = cap := by injection ev with e1 e2 e3; exact ⟨e1, e3⟩
          obtain ⟨p, hp⟩ : ∃ p, p = qs[i] := ⟨_, rfl⟩
          rw [← hp] at hcell
          have hpm : p ∈ qs := by rw [hp]; exact List.getElem_mem hil
          obtain ⟨B, x, y⟩ := p
          have hbd := HQ.out.2.2.2.2 _ hpm
          dsimp only at hbd
          obtain ⟨hc0, hc1⟩ := hH.inn.cells _ hpm
          dsimp only at hc0 hc1
          have harr : (Instr.arrayAt 87 (.slice (some ⟨B, 0, none⟩) 2 2)).run Try.prog wr = .ok (.pointer (some ⟨B, 0, none⟩)) wr := by
            simp [Instr.arrayAt, run_underlying Try.underlying87, Result.andThen]
          have ex : (Tk.vals qs)[i]'(by rw [Tk.vals_len]; exact hil) = [x, y] := by simp [Tk.vals, ← hp, Tk.vl]
          have hnew : ∀ z ∈ Kn.known (impl_left.pairs n) s k ++ ((Tk.vals qs).take i).map (impl_knowing.ent kk), ¬ (z.1 = x ∧ z.2.1 = y) := by
            have hd := Kn.known_apart HT.out HD.out (k + 1) (s := s)
            have hkn : Kn.known (impl_left.pairs n) s (k + 1) = Kn.known (impl_left.pairs n) s k ++ (Tk.vals qs).map (impl_knowing.ent kk) := by
              rw [HQ.out.1, HE.out.2.2]
              rfl
            rw [hkn, ← List.take_append_drop i (Tk.vals qs), List.map_append, ← List.append_assoc] at hd
            have h1 := (List.pairwise_append.1 hd).2.2
            intro z hz hzz
            refine h1 z hz (impl_knowing.ent kk [x, y]) ?_ ⟨hzz.1, hzz.2⟩
            refine List.mem_map.2 ⟨[x, y], ?_, rfl⟩
            rw [List.drop_eq_getElem_cons (by rw [Tk.vals_len]; exact hil), ex]
            exact List.mem_cons_self
          obtain ⟨w3, hup, hm3, hg3⟩ := HI.out.1.put (t := 85) impl_knowing.fits Try.underlying3 impl_knowing.sized Try.underlying85 x y kk (Tk.wf64 _ (by omega)) (Tk.wf64 _ (by omega)) hnew
          have H3 : Aside0 (Km.MapK w3 w.heap.size (Kn.known (impl_left.pairs n) s k ++ ((Tk.vals qs).take (i + 1)).map (impl_knowing.ent kk)) ∧ w2.grownBy w3 (some w.heap.size)) := ⟨by
            refine ⟨?_, ?_⟩
            · rw [List.take_succ_eq_append_getElem (by rw [Tk.vals_len]; exact hil), ex, List.map_append, ← List.append_assoc]
              exact hm3
            · have h0 := HI.out.2
              exact ⟨hg3.os.trans h0.os, hg3.tape.trans h0.tape, hg3.output.trans h0.output, Nat.le_trans h0.size hg3.size, fun j hj hne => (hg3.block j (Nat.lt_of_lt_of_le hj h0.size) hne).trans (h0.block j hj hne)⟩⟩
          unfold Km.kv at hup
          unfold Tk.cv at hcell
          dsimp only at hcell
          clear hnew hm3 hg3 ex hH ev hp hpm hbd
          go_wp2
          go_roundg (qs.length - (i + 1))
          case measure => omega
          case rel => exact ⟨i + 1, by go_num, by omega, Nat.le_refl _, H3⟩
        · have hiz : ¬ (i : Int) < (qs.length : Int) := by omega
          obtain rfl : i = qs.length := by omega
          have HKN : Aside0 (Km.MapK wr w.heap.size (Kn.known (impl_left.pairs n) s (k + 1))) := ⟨by
            have := HI.out.1
            rw [List.take_of_length_le (by rw [Tk.vals_len]; exact Nat.le_refl _), HQ.out.1, HE.out.2.2] at this
            exact this⟩
          have HB := Aside0.mk ((below_step HM.out.2 H1.out.2).grown HI.out.2 (by have := HM.out.2.size; have := H1.out.2.size; omega) (fun j hj => by cases hj; exact Nat.le_refl _))
          have HH2 : Aside0 (Tk.Has 36 3 wr b lo (.slice A ps.length c) ps) := ⟨impl_knowing.grown (HP.out.1.below H1.out.2) HI.out.2 HP.out.2.2.2.1 HP.out.2.2.2.2⟩
          have HO2 := fun W => HO.out (Kn.alt s k) wo W HE.out.1
          have HOW := Aside0.mk HO2
          clear HO2 hgi
          by_cases hlt : rs.length < ps.length
          · have hlz : (rs.length : Int) < (ps.length : Int) := by omega
            have HLT := Aside0.mk hlt
            clear hlt
            go_wp2_with (first
              | (go_at_call 78; refine (T2.out _ HH2.out).mono ?_; rintro e w5 ⟨A5, c5, rfl, H5⟩; clear T2)
              | (go_at_call 89; refine (HOW.out _).mono ?_; rintro e w6 ⟨wx, rfl, j6, rfl, HX⟩; clear HOW))
            go_roundg (Kn.pot (impl_left.pairs n) s (k + 1))
            case measure => have := HPT.out; omega
            case rel =>
              refine ⟨k + 1, wr.heap.size, lo, c5, 0, kk + 1, wx, A5, rs, rfl, rfl, by go_num, by go_num, ⟨by rw [HX.out, Kn.alt_succ], ?_, by rw [HE.out.2.2]; omega⟩, Nat.le_refl _, ⟨fun j hj => ?_⟩, ⟨?_, HQ.out.2.1, HQ.out.2.2.1, ?_, HP.out.2.2.2.2⟩, ⟨?_, ?_⟩⟩
              · have e : Kn.still (impl_left.pairs n) s (k + 1) = if (Kn.rests (impl_left.pairs n) s (k + 1)).length < (Kn.rests (impl_left.pairs n) s k).length then 0 else Kn.still (impl_left.pairs n) s k + 1 := rfl
                rw [e, ← HQ.out.2.1, ← HP.out.2.1, Tk.vals_len, Tk.vals_len, if_pos HLT.out]
                rfl
              · rcases Nat.lt_succ_iff_lt_or_eq.1 hj with h | rfl
                · exact HJ.out j h
                · exact HS2.out
              · exact H5.out.1.below (pw_below_drewN (Below.refl _ _) j6)
              · have := HKN.out.lt; omega
              · exact (HKN.out.below H5.out.2).below (pw_below_drewN (Below.refl _ _) j6)
              · exact below_step (below_step HB.out H5.out.2) (pw_below_drewN (Below.refl _ _) j6)
          · have hlz : ¬ (rs.length : Int) < (ps.length : Int) := by omega
            have HLT := Aside0.mk hlt
            clear hlt
            go_wp2_with (first
              | (go_at_call 78; refine (T2.out _ HH2.out).mono ?_; rintro e w5 ⟨A5, c5, rfl, H5⟩; clear T2)
              | (go_at_call 89; refine (HOW.out _).mono ?_; rintro e w6 ⟨wx, rfl, j6, rfl, HX⟩; clear HOW))
            go_roundg (Kn.pot (impl_left.pairs n) s (k + 1))
            case measure => have := HPT.out; omega
            case rel =>
              refine ⟨k + 1, wr.heap.size, lo, c5, st + 1, kk + 1, wx, A5, rs, rfl, rfl, by go_num, by go_num, ⟨by rw [HX.out, Kn.alt_succ], ?_, by rw [HE.out.2.2]; omega⟩, Nat.le_refl _, ⟨fun j hj => ?_⟩, ⟨?_, HQ.out.2.1, HQ.out.2.2.1, ?_, HP.out.2.2.2.2⟩, ⟨?_, ?_⟩⟩
              · have e : Kn.still (impl_left.pairs n) s (k + 1) = if (Kn.rests (impl_left.pairs n) s (k + 1)).length < (Kn.rests (impl_left.pairs n) s k).length then 0 else Kn.still (impl_left.pairs n) s k + 1 := rfl
                rw [e, ← HQ.out.2.1, ← HP.out.2.1, Tk.vals_len, Tk.vals_len, if_neg HLT.out, HE.out.2.1]
                omega
              · rcases Nat.lt_succ_iff_lt_or_eq.1 hj with h | rfl
                · exact HJ.out j h
                · exact HS2.out
              · exact H5.out.1.below (pw_below_drewN (Below.refl _ _) j6)
              · have := HKN.out.lt; omega
              · exact (HKN.out.below H5.out.2).below (pw_below_drewN (Below.refl _ _) j6)
              · exact below_step (below_step HB.out H5.out.2) (pw_below_drewN (Below.refl _ _) j6)
    · have hst : ¬ st < 2 := by have := HE.out.2.1; omega
      have HS2 := Aside0.mk (Nat.le_of_not_lt hs2)
      clear hs2
      have HK4 := Aside0.mk hk
      clear hk
      go_wp2
      go_ret
      exact ⟨w.heap.size, rfl, ⟨k, HM.out.1, HS2.out, HK4.out, HM.out.2⟩⟩
theorem impl_left.mem_pairs (n : Nat) (a b : Int) (h : 1 ≤ a ∧ a ≤ b ∧ b ≤ (n : Int)) : [a, b] ∈ impl_left.pairs n := by
  unfold impl_left.pairs impl_pairsThat.all
  refine List.mem_flatMap.2 ⟨(a - 1).toNat, List.mem_range.2 (by omega), ?_⟩
  unfold impl_pairsThat.row
  refine List.mem_map.2 ⟨(b - a).toNat, ?_, ?_⟩
  · rw [List.mem_filter, List.mem_range]
    exact ⟨by omega, rfl⟩
  · have e1 : (((a - 1).toNat + 1 : Nat) : Int) = a := by omega
    have e2 : a + ((b - a).toNat : Int) = b := by omega
    simp only [e1, e2]
set_option maxHeartbeats 1000000 in
/-- What the map tells, wherever it is looked at. -/
theorem impl_knowing.tells (n : Nat) (hn : n ≤ 40) (s : Bool) (w : World) :
    Calls Try.prog 88 #[.int .i64 (n : Int), .string (Tk.wh s)] w fun e w' => ∃ M : Nat, e = .returned (.map (some M)) ∧ Aside0 ((∀ W, Below w'.heap.size w' W → (∀ (a b : Int) (c : Bool), 1 ≤ a ∧ a ≤ b ∧ b ≤ (n : Int) → (Instr.lookup 85 (.map (some M)) (.agg #[.int .i64 a, .int .i64 b]) c).run Try.prog W = .ok (if c then .tuple #[.int .i64 (Kn.kt (impl_left.pairs n) s [a, b] : Int), .bool (decide (0 < Kn.kt (impl_left.pairs n) s [a, b]))] else .int .i64 (Kn.kt (impl_left.pairs n) s [a, b] : Int)) W) ∧
      ∃ L : Nat, L + (impl_left.pairs n).countP (fun x => decide (Kn.kt (impl_left.pairs n) s x = 0)) = (impl_left.pairs n).length ∧ ∀ ty, (Builtin.len_ #[85] ty #[.map (some M)]).run Try.prog W = .ok (.int .i64 (L : Int)) W) ∧ Below w.heap.size w w') :=
  (impl_knowing.has n hn s w).mono fun e w' he => by
    obtain ⟨M, rfl, ⟨N, hM, hs, hN, hb⟩⟩ := he
    have h2 := impl_left.two n
    have hd := impl_left.nodup n
    refine ⟨M, rfl, ⟨fun W hW => ⟨fun a b c hab => ?_, _, ?_, (hM.below hW).len Try.underlying85⟩, hb⟩⟩
    · obtain ⟨e1, e2⟩ := Km.get_known h2 hd hs hN a b (impl_left.mem_pairs n a b hab)
      have := (hM.below hW).look (t := 85) impl_knowing.fits Try.underlying3 impl_knowing.sized Try.underlying85 (fun w => by kernel_rfl) (Kn.known_apart h2 hd N) a b (Tk.wf64 _ (by omega)) (Tk.wf64 _ (by omega)) c
      rw [e1, e2] at this
      exact this
    · rw [← Kn.known_len (A := impl_left.pairs n) (s := s) N, Nat.add_left_cancel_iff]
      exact Kn.kt_count hs hN

end Go.Proofs.Ytlkbphhmahipdaa.P
namespace Go.Proofs.Ytlkbphhmahipdaa.P
open Go.RowKit Go.Proofs.YtlkbphhmahipdaaW.PrintWords Go.Proofs.YtlkbphhmahipdaaW.PrintLast Go.Proofs.YtlkbphhmahipdaaW.PrintMore
attribute [local go_sem] max2_int min2_int max_two min_two max_three min_three max_four min_four   -- for this text's walks alone
set_option linter.unusedVariables false
set_option linter.unusedSimpArgs false

/-! ### impl_KnownAfter: function 36, by hand -/
-- IMPORT Derived.Test.YtlkbphhmahipdaaTk
-- IMPORT Derived.Test.YtlkbphhmahipdaaKm
-- IMPORT Derived.Test.YtlkbphhmahipdaaKn
/-- Is there a pair, and one who begins? -/
def impl_KnownAfter.pair (n a b : Int) : Bool := decide ((2 ≤ n ∧ n ≤ 40) ∧ (1 ≤ a ∧ a ≤ b) ∧ 1 ≤ b ∧ b ≤ n)
/-- Behind how many statements somebody knows the pair, 0 if never. -/
def impl_KnownAfter.t (n a b : Int) (who : ByteArray) : Int := (Kn.kt (impl_left.pairs n.toNat) (Kn.sp who) [a, b] : Int)
theorem impl_between.tolds (a lo hi : Int) : impl_between.f a lo hi = some (decide (lo ≤ a ∧ a ≤ hi)) := by
  unfold impl_between.f
  by_cases h1 : lo ≤ a <;> by_cases h2 : a ≤ hi <;> simp [h1, h2] <;> omega
theorem impl_isPair.told (n a b : Int) : impl_isPair.f n a b = some (impl_KnownAfter.pair n a b) := by
  unfold impl_isPair.f impl_isMost.f impl_KnownAfter.pair
  simp only [impl_between.tolds, Option.bind_some]
  by_cases h1 : 2 ≤ n ∧ n ≤ 40 <;> by_cases h2 : 1 ≤ a ∧ a ≤ b <;> by_cases h3 : 1 ≤ b ∧ b ≤ n <;> simp [h1, h2, h3]
theorem impl_isWho.told (who : ByteArray) : impl_isWho.f who = some (Kn.who who) := by
  unfold impl_isWho.f Kn.who
  by_cases h1 : who.toList = [115] <;> by_cases h2 : who.toList = [112] <;> simp [h1, h2]
set_option maxHeartbeats 4000000 in
set_option maxRecDepth 100000 in
theorem impl_KnownAfter.has (n a b : Int) (who : ByteArray) (w : World) :
    Calls Try.prog 36 #[.int .i64 n, .int .i64 a, .int .i64 b, .string who] w fun e w' => e = .returned (if impl_KnownAfter.pair n a b && Kn.who who then .tuple #[.int .i64 (impl_KnownAfter.t n a b who), .bool (decide (0 < impl_KnownAfter.t n a b who))] else .tuple #[.int .i64 0, .bool false]) ∧ Below w.heap.size w w' := by
  have TP : Aside0 (∀ W, Calls Try.prog 80 #[.int .i64 n, .int .i64 a, .int .i64 b] W fun e w' => e = .returned (.bool (impl_KnownAfter.pair n a b)) ∧ ∃ j, w' = W.drewN j) := ⟨fun W => (impl_isPair.calls n a b _ W (impl_isPair.told n a b)).mono fun e w' h => ⟨h.1, h.2.out⟩⟩
  have TW : Aside0 (∀ W, Calls Try.prog 87 #[.string who] W fun e w' => e = .returned (.bool (Kn.who who)) ∧ ∃ j, w' = W.drewN j) := ⟨fun W => (impl_isWho.calls who _ W (impl_isWho.told who)).mono fun e w' h => ⟨h.1, h.2.out⟩⟩
  cases hp : impl_KnownAfter.pair n a b with
  | false =>
    rw [hp] at TP
    clear hp TW
    go_enter Try.func36, Try.ntmps36
    go_wp2_with (go_at_call 80; refine (TP.out _).mono ?_; rintro e w2 ⟨rfl, j2, rfl⟩)
    go_ret2
    exact ⟨rfl, pw_below_drewN (Below.refl _ _) _⟩
  | true =>
    have hpp := of_decide_eq_true hp
    rw [hp] at TP
    cases hw : Kn.who who with
    | false =>
      rw [hw] at TW
      clear hp hw hpp
      go_enter Try.func36, Try.ntmps36
      go_wp2_with (first
        | (go_at_call 80; refine (TP.out _).mono ?_; rintro e w2 ⟨rfl, j2, rfl⟩)
        | (go_at_call 87; refine (TW.out _).mono ?_; rintro e w3 ⟨rfl, j3, rfl⟩))
      go_ret2
      exact ⟨rfl, pw_below_drewN (Below.refl _ _) _⟩
    | true =>
      have ew := Kn.wh_of hw
      rw [hw] at TW
      obtain ⟨m, rfl⟩ := Int.eq_ofNat_of_zero_le (show 0 ≤ n by omega)
      have TK : Aside0 (∀ W, Calls Try.prog 88 #[.int .i64 (m : Int), .string who] W fun e w' => ∃ M : Nat, e = .returned (.map (some M)) ∧ (Instr.lookup 85 (.map (some M)) (.agg #[.int .i64 a, .int .i64 b]) true).run Try.prog w' = .ok (.tuple #[.int .i64 (impl_KnownAfter.t (m : Int) a b who), .bool (decide (0 < impl_KnownAfter.t (m : Int) a b who))]) w' ∧ Aside0 (Below W.heap.size W w')) := ⟨fun W => by
        have := impl_knowing.tells m (by omega) (Kn.sp who) W
        rw [← ew] at this
        exact this.mono fun e w' he => by
          obtain ⟨M, rfl, h⟩ := he
          refine ⟨M, rfl, ?_, ⟨h.out.2⟩⟩
          have h1 := (h.out.1 w' (Below.refl _ _)).1 a b true (by omega)
          rw [h1]
          simp [impl_KnownAfter.t]⟩
      clear hp hw hpp ew
      generalize impl_KnownAfter.t (m : Int) a b who = t at TK
      go_enter Try.func36, Try.ntmps36
      go_wp2_with (first
        | (go_at_call 80; refine (TP.out _).mono ?_; rintro e w2 ⟨rfl, j2, rfl⟩)
        | (go_at_call 87; refine (TW.out _).mono ?_; rintro e w3 ⟨rfl, j3, rfl⟩)
        | (go_at_call 88; refine (TK.out _).mono ?_; rintro e w4 ⟨M, rfl, hlk, H4⟩))
      go_ret2
      exact ⟨rfl, below_step (pw_below_drewN (Below.refl _ _) _) H4.out⟩
def impl_KnownAfter.f (n a b : Int) (who : ByteArray) : Option (Int × Bool) := some (if impl_KnownAfter.pair n a b && Kn.who who then (impl_KnownAfter.t n a b who, decide (0 < impl_KnownAfter.t n a b who)) else (0, false))
theorem impl_KnownAfter.calls (n a b : Int) (who : ByteArray) (r1 : Int) (r2 : Bool) (w : World) (h : impl_KnownAfter.f n a b who = some (r1, r2)) :
    Calls Try.prog 36 #[.int .i64 n, .int .i64 a, .int .i64 b, .string who] w fun e w' => e = .returned (.tuple #[.int .i64 r1, .bool r2]) ∧ Below w.heap.size w w' := by
  unfold impl_KnownAfter.f at h
  have h := Option.some.inj h
  refine (impl_KnownAfter.has n a b who w).mono fun e w' he => ⟨he.1.trans ?_, he.2⟩
  split at h <;> (injection h with h1 h2; subst h1 h2; rename_i hc; simp [hc])

end Go.Proofs.Ytlkbphhmahipdaa.P
namespace Go.Proofs.Ytlkbphhmahipdaa.P
open Go.RowKit Go.Proofs.YtlkbphhmahipdaaW.PrintWords Go.Proofs.YtlkbphhmahipdaaW.PrintLast Go.Proofs.YtlkbphhmahipdaaW.PrintMore
attribute [local go_sem] max2_int min2_int max_two min_two max_three min_three max_four min_four   -- for this text's walks alone
set_option linter.unusedVariables false
set_option linter.unusedSimpArgs false

/-! ### impl_TrueTalk: function 34, by hand -/
-- IMPORT Derived.Test.YtlkbphhmahipdaaTk
-- IMPORT Derived.Test.YtlkbphhmahipdaaKm
-- IMPORT Derived.Test.YtlkbphhmahipdaaKn
set_option maxHeartbeats 4000000 in
set_option maxRecDepth 100000 in
theorem impl_TrueTalk.has (n a b : Int) (who : ByteArray) (w : World) :
    Calls Try.prog 34 #[.int .i64 n, .int .i64 a, .int .i64 b, .string who] w fun e w' => e = .returned (if impl_KnownAfter.pair n a b && Kn.who who then .tuple #[.string (Kn.talk (Kn.sp who) (impl_KnownAfter.t n a b who).toNat), .bool true] else .tuple #[.string ⟨#[]⟩, .bool false]) ∧ Below w.heap.size w w' := by
  have TP : Aside0 (∀ W, Calls Try.prog 80 #[.int .i64 n, .int .i64 a, .int .i64 b] W fun e w' => e = .returned (.bool (impl_KnownAfter.pair n a b)) ∧ ∃ j, w' = W.drewN j) := ⟨fun W => (impl_isPair.calls n a b _ W (impl_isPair.told n a b)).mono fun e w' h => ⟨h.1, h.2.out⟩⟩
  have TW : Aside0 (∀ W, Calls Try.prog 87 #[.string who] W fun e w' => e = .returned (.bool (Kn.who who)) ∧ ∃ j, w' = W.drewN j) := ⟨fun W => (impl_isWho.calls who _ W (impl_isWho.told who)).mono fun e w' h => ⟨h.1, h.2.out⟩⟩
  cases hp : impl_KnownAfter.pair n a b with
  | false =>
    rw [hp] at TP
    clear hp TW
    go_enter Try.func34, Try.ntmps34
    go_wp2_with (go_at_call 80; refine (TP.out _).mono ?_; rintro e w2 ⟨rfl, j2, rfl⟩)
    go_ret2
    exact ⟨rfl, pw_below_drewN (Below.refl _ _) _⟩
  | true =>
    have hpp := of_decide_eq_true hp
    rw [hp] at TP
    cases hw : Kn.who who with
    | false =>
      rw [hw] at TW
      clear hp hw hpp
      go_enter Try.func34, Try.ntmps34
      go_wp2_with (first
        | (go_at_call 80; refine (TP.out _).mono ?_; rintro e w2 ⟨rfl, j2, rfl⟩)
        | (go_at_call 87; refine (TW.out _).mono ?_; rintro e w3 ⟨rfl, j3, rfl⟩))
      go_ret2
      exact ⟨rfl, pw_below_drewN (Below.refl _ _) _⟩
    | true =>
      have ew := Kn.wh_of hw
      rw [hw] at TW
      obtain ⟨m, rfl⟩ := Int.eq_ofNat_of_zero_le (show 0 ≤ n by omega)
      have ht0 : 0 ≤ impl_KnownAfter.t (m : Int) a b who := by unfold impl_KnownAfter.t; omega
      have TK : Aside0 (∀ W, Calls Try.prog 88 #[.int .i64 (m : Int), .string who] W fun e w' => ∃ M : Nat, e = .returned (.map (some M)) ∧ (Instr.lookup 85 (.map (some M)) (.agg #[.int .i64 a, .int .i64 b]) true).run Try.prog w' = .ok (.tuple #[.int .i64 (impl_KnownAfter.t (m : Int) a b who), .bool (decide (0 < impl_KnownAfter.t (m : Int) a b who))]) w' ∧ Aside0 (Below W.heap.size W w')) := ⟨fun W => by
        have := impl_knowing.tells m (by omega) (Kn.sp who) W
        rw [← ew] at this
        exact this.mono fun e w' he => by
          obtain ⟨M, rfl, h⟩ := he
          refine ⟨M, rfl, ?_, ⟨h.out.2⟩⟩
          have h1 := (h.out.1 w' (Below.refl _ _)).1 a b true (by omega)
          rw [h1]
          simp [impl_KnownAfter.t]⟩
      have HO : Aside0 (∀ (b : Bool) (wo : ByteArray) W, wo = Tk.wh b → Calls Try.prog 89 #[.string wo] W fun e w' => ∃ wx, e = .returned (.string wx) ∧ ∃ j, w' = W.drewN j ∧ Aside0 (wx = Tk.wh (!b))) := ⟨fun b wo W e => by
        subst e
        exact (impl_otherWho.calls (Tk.wh b) _ W (impl_otherWho.told b)).mono fun e w' h => by
          obtain ⟨j, hj⟩ := h.2.out
          exact ⟨_, h.1, j, hj, ⟨rfl⟩⟩⟩
      have EW := Aside0.mk ew
      clear hp hw hpp ew
      generalize impl_KnownAfter.t (m : Int) a b who = t at TK ht0
      have HT0 := Aside0.mk ht0
      clear ht0
      have TK2 : Aside0 (∃ g, g = decide (0 < t)) := ⟨_, rfl⟩
      obtain ⟨g, hg⟩ := TK2.out
      rw [← hg] at TK
      have HG := Aside0.mk hg
      clear hg TK2
      go_enter Try.func34, Try.ntmps34
      go_wp2_with (first
        | (go_at_call 80; refine (TP.out _).mono ?_; rintro e w2 ⟨rfl, j2, rfl⟩)
        | (go_at_call 87; refine (TW.out _).mono ?_; rintro e w3 ⟨rfl, j3, rfl⟩)
        | (go_at_call 88; refine (TK.out _).mono ?_; rintro e w4 ⟨M, rfl, hlk, H4⟩))
      have HB4 := Aside0.mk (below_step (pw_below_drewN (Below.refl w.heap.size w) _) H4.out)
      go_loopg [3, 12, 13] 12 (fun gg s3 s12 s13 wr => ∃ (i : Nat) (i1 : Int) (wo tk : ByteArray), s3 = .string wo ∧ s12 = .string tk ∧ s13 = .int .i64 i1 ∧ i ≤ 12 ∧ 12 - i ≤ gg ∧ Aside0 (i1 = (i : Int) + 1) ∧ Aside0 (wo = Tk.wh (Kn.alt (Kn.sp who) i) ∧ tk = Kn.tt (Kn.sp who) i ∧ (∀ j : Nat, j < i → (j : Int) + 1 ≠ t) ∧ Below w.heap.size w wr))
      case atStart => exact ⟨0, 1, who, ⟨#[]⟩, rfl, rfl, rfl, Nat.zero_le _, by omega, ⟨by simp⟩, ⟨EW.out, rfl, (fun j hj => absurd hj (Nat.not_lt_zero j)), HB4.out⟩⟩
      case round =>
        obtain ⟨i, i1, wo, tk, rfl, rfl, rfl, hi, hgg, HI, HE⟩ := hrel
        clear HB4 hlk
        by_cases hi12 : i < 12
        · have hz : i1 ≤ 12 := by have := HI.out; omega
          have hz0 : 1 ≤ i1 := by have := HI.out; omega
          have hwo : wo.size = 1 := by rw [HE.out.1]; exact Kn.wh_size _
          have htk : tk.size ≤ 24 := by rw [HE.out.2.1, Kn.tt_size]; omega
          by_cases ht : i1 = t
          · have hgt : g = true := by rw [HG.out]; exact decide_eq_true (by omega)
            subst hgt
            have hk0 : tk.size + wo.size ≤ 9223372036854775807 := by omega
            have hk1 : (tk ++ wo).size + 1 ≤ 9223372036854775807 := by rw [ByteArray.size_append]; omega
            have hk0b : decide (tk.size + wo.size ≤ 9223372036854775807) = true := decide_eq_true hk0
            have hk0c : (9223372036854775807 < tk.size + wo.size) = False := eq_false (Nat.not_lt.2 hk0)
            have hk1b : decide ((tk ++ wo).size + 1 ≤ 9223372036854775807) = true := decide_eq_true hk1
            have hk1c : (9223372036854775807 < (tk ++ wo).size + 1) = False := eq_false (Nat.not_lt.2 hk1)
            have hk2 : tk.size + wo.size + 1 ≤ 9223372036854775807 := by omega
            have hk2c : (9223372036854775807 < tk.size + wo.size + 1) = False := eq_false (Nat.not_lt.2 hk2)
            have HTT := Aside0.mk ht
            have htz : (i1 == t) = true := by simpa using ht
            clear hwo htk
            go_wp2
            go_ret2
            refine ⟨?_, HE.out.2.2.2⟩
            have e1 : t.toNat = i + 1 := by have := HTT.out; have := HI.out; omega
            rw [e1]
            unfold Kn.talk
            rw [if_pos (by omega), HE.out.1, HE.out.2.1]
            rfl
          · have htz : (i1 == t) = false := by simpa using ht
            have htd : decide (i1 = t) = false := decide_eq_false ht
            have hk0 : wo.size + 1 ≤ 9223372036854775807 := by omega
            have hk1 : tk.size + (wo ++ (⟨#[45]⟩ : ByteArray)).size ≤ 9223372036854775807 := by rw [ByteArray.size_append]; show tk.size + (wo.size + 1) ≤ _; omega
            have hk0b : decide (wo.size + 1 ≤ 9223372036854775807) = true := decide_eq_true hk0
            have hk0c : (9223372036854775807 < wo.size + 1) = False := eq_false (Nat.not_lt.2 hk0)
            have hk1b : decide (tk.size + (wo ++ (⟨#[45]⟩ : ByteArray)).size ≤ 9223372036854775807) = true := decide_eq_true hk1
            have hk1c : (9223372036854775807 < tk.size + (wo ++ (⟨#[45]⟩ : ByteArray)).size) = False := eq_false (Nat.not_lt.2 hk1)
            have HTT := Aside0.mk ht
            have HOW := Aside0.mk (fun W => HO.out (Kn.alt (Kn.sp who) i) wo W HE.out.1)
            clear hwo htk ht
            cases g with
            | true =>
              go_wp2_with (go_at_call 89; refine (HOW.out _).mono ?_; rintro e w6 ⟨wx, rfl, j6, rfl, HX⟩; clear HOW)
              go_roundg (12 - (i + 1))
              case measure => omega
              case rel =>
                refine ⟨i + 1, i1 + 1, wx, _, rfl, rfl, by go_num, by omega, Nat.le_refl _, ⟨by have := HI.out; omega⟩, ⟨by rw [HX.out, Kn.alt_succ], by rw [HE.out.1, HE.out.2.1]; rfl, fun j hj => ?_, pw_below_drewN HE.out.2.2.2 _⟩⟩
                rcases Nat.lt_succ_iff_lt_or_eq.1 hj with h | rfl
                · exact HE.out.2.2.1 j h
                · have := HTT.out; have := HI.out; omega
            | false =>
              go_wp2_with (go_at_call 89; refine (HOW.out _).mono ?_; rintro e w6 ⟨wx, rfl, j6, rfl, HX⟩; clear HOW)
              go_roundg (12 - (i + 1))
              case measure => omega
              case rel =>
                refine ⟨i + 1, i1 + 1, wx, _, rfl, rfl, by go_num, by omega, Nat.le_refl _, ⟨by have := HI.out; omega⟩, ⟨by rw [HX.out, Kn.alt_succ], by rw [HE.out.1, HE.out.2.1]; rfl, fun j hj => ?_, pw_below_drewN HE.out.2.2.2 _⟩⟩
                rcases Nat.lt_succ_iff_lt_or_eq.1 hj with h | rfl
                · exact HE.out.2.2.1 j h
                · have := HTT.out; have := HI.out; omega
        · have hz : ¬ i1 ≤ 12 := by have := HI.out; omega
          obtain rfl : i = 12 := by omega
          go_wp2
          go_ret2
          refine ⟨?_, HE.out.2.2.2⟩
          have hno := HE.out.2.2.1
          have h0 := HT0.out
          unfold Kn.talk
          rw [if_neg ?_, HE.out.2.1]
          · rfl
          · intro hh
            exact hno (t.toNat - 1) (by omega) (by omega)
def impl_TrueTalk.f (n a b : Int) (who : ByteArray) : Option (ByteArray × Bool) := some (if impl_KnownAfter.pair n a b && Kn.who who then (Kn.talk (Kn.sp who) (impl_KnownAfter.t n a b who).toNat, true) else (⟨#[]⟩, false))
theorem impl_TrueTalk.calls (n a b : Int) (who : ByteArray) (r1 : ByteArray) (r2 : Bool) (w : World) (h : impl_TrueTalk.f n a b who = some (r1, r2)) :
    Calls Try.prog 34 #[.int .i64 n, .int .i64 a, .int .i64 b, .string who] w fun e w' => e = .returned (.tuple #[.string r1, .bool r2]) ∧ Below w.heap.size w w' := by
  unfold impl_TrueTalk.f at h
  have h := Option.some.inj h
  refine (impl_TrueTalk.has n a b who w).mono fun e w' he => ⟨he.1.trans ?_, he.2⟩
  split at h <;> (injection h with h1 h2; subst h1 h2; rename_i hc; simp [hc])

end Go.Proofs.Ytlkbphhmahipdaa.P
namespace Go.Proofs.Ytlkbphhmahipdaa.P
open Go.RowKit Go.Proofs.YtlkbphhmahipdaaW.PrintWords Go.Proofs.YtlkbphhmahipdaaW.PrintLast Go.Proofs.YtlkbphhmahipdaaW.PrintMore
attribute [local go_sem] max2_int min2_int max_two min_two max_three min_three max_four min_four   -- for this text's walks alone
set_option linter.unusedVariables false
set_option linter.unusedSimpArgs false

/-! ### spec_taKnown: function 91, by hand -/
-- IMPORT Derived.Test.YtlkbphhmahipdaaTk
-- IMPORT Derived.Test.YtlkbphhmahipdaaKn
theorem spec_taKnown.mem_has (A : List (List Int)) (hA : Kn.Two A) (xs : List (List Int)) (hs : ∀ x ∈ xs, x ∈ A) (a b : Int) : impl_isTrue.has_ xs a b = decide ([a, b] ∈ xs) := by
  unfold impl_isTrue.has_
  rw [Bool.eq_iff_iff, List.any_eq_true, decide_eq_true_eq]
  constructor
  · rintro ⟨x, hx, h⟩
    simp only [Bool.and_eq_true, decide_eq_true_eq] at h
    have := Kn.two_eq (hA x (hs x hx))
    rw [h.1, h.2] at this
    rw [← this]
    exact hx
  · intro h
    exact ⟨_, h, by simp [rd]⟩
theorem spec_taKnown.says (s : Bool) (b lo c : Nat) (A : Option Addr) (ps : List Tk.PP) (W : World) (hH : Tk.Has 36 3 W b lo (.slice A ps.length c) ps) (hok : Tk.Ok ps) :
    Calls Try.prog 77 #[.slice A ps.length c, .string (Tk.wh s), .int .u8 45] W fun e w' => ∃ A1 c1, e = .returned (.slice A1 (impl_behind.sel s 45 ps).length c1) ∧ Aside0 (Tk.Has 36 3 w' W.heap.size lo (.slice A1 (impl_behind.sel s 45 ps).length c1) (impl_behind.sel s 45 ps) ∧ Below W.heap.size W w') :=
  (spec_taSay.has s 45 (.inl rfl) b lo _ ps W hH hok).mono fun e w' he => by
    obtain ⟨v', rfl, h1, h2⟩ := he
    obtain ⟨A1, c1, rfl, _, _⟩ := h1.slice
    exact ⟨A1, c1, rfl, ⟨h1, h2⟩⟩
theorem spec_taKnown.hass (bl lo c : Nat) (A : Option Addr) (ps : List Tk.PP) (W : World) (hH : Tk.Has 36 3 W bl lo (.slice A ps.length c) ps) (hok : Tk.Ok ps) (a b : Int) :
    Calls Try.prog 98 #[.slice A ps.length c, .int .i64 a, .int .i64 b] W fun e w' => e = .returned (.bool (impl_isTrue.has_ (Tk.vals ps) a b)) ∧ ∃ j, w' = W.drewN j := by
  obtain ⟨_, _, e, hcap, _⟩ := hH.slice
  injection e with _ _ e
  subst e
  have hlen := Tk.vals_len ps
  have h5 := spec_taHas.calls ((Tk.vals ps).length + 1) A c (Tk.vals ps) a b _ W hH.C (by rw [hlen]; exact hcap) (spec_taHas.told (Tk.vals ps) (by rw [hlen]; have := hok.1; omega) (fun x hx => by obtain ⟨p, _, rfl⟩ := List.mem_map.1 hx; rfl) a b)
  rw [hlen] at h5
  exact h5.mono fun e w'' h => ⟨h.1, h.2.out⟩
set_option maxHeartbeats 4000000 in
set_option maxRecDepth 100000 in
theorem spec_taKnown.has (n : Nat) (hn : n ≤ 40) (s : Bool) (a b : Int) (hab : [a, b] ∈ impl_left.pairs n) (w : World) :
    Calls Try.prog 91 #[.int .i64 (n : Int), .int .i64 a, .int .i64 b, .string (Tk.wh s)] w fun e w' => e = .returned (.int .i64 (Kn.kt (impl_left.pairs n) s [a, b] : Int)) ∧ Aside0 (Below w.heap.size w w') := by
  have HA := Aside0.mk (fun W => spec_taPairs.has n hn W)
  have HL := Aside0.mk (impl_left.pairs_le n hn)
  have HT := Aside0.mk (impl_left.two n)
  have HK := Aside0.mk (fun ps => impl_left.ok_all (fun _ _ => true) n hn ps)
  have HAB := Aside0.mk hab
  have HW0 : Aside0 (∃ wo, wo = Tk.wh s) := ⟨_, rfl⟩
  obtain ⟨wo0, hwo⟩ := HW0.out
  have HW := Aside0.mk hwo
  rw [← hwo]
  clear HW0 hwo hab
  obtain ⟨kt, hkt⟩ : ∃ kt : Int, kt = (Kn.kt (impl_left.pairs n) s [a, b] : Int) := ⟨_, rfl⟩
  have HKT := Aside0.mk hkt
  rw [← hkt]
  clear hkt
  go_enter Try.func91, Try.ntmps91
  go_wp2_with (go_at_call 94; refine (HA.out _).mono ?_; rintro e w2 ⟨v, rfl, h⟩; have H := Aside0.mk h; clear h)
  go_loopg [3, 9, 10, 11] (Kn.pot (impl_left.pairs n) s 0) (fun gg s3 s9 s10 s11 wr => ∃ (k bl lo c : Nat) (st kk : Int) (wo : ByteArray) (A : Option Addr) (ps : List Tk.PP), s3 = .string wo ∧ s9 = .slice A ps.length c ∧ s10 = .int .i64 st ∧ s11 = .int .i64 kk ∧ Aside0 (wo = Tk.wh (Kn.alt s k) ∧ st = (Kn.still (impl_left.pairs n) s k : Int) ∧ kk = (k : Int) + 1) ∧ Kn.pot (impl_left.pairs n) s k ≤ gg ∧ Aside0 (∀ j, j ≤ k → Kn.still (impl_left.pairs n) s j < 2) ∧ Aside0 (Tk.Has 36 3 wr bl lo (.slice A ps.length c) ps ∧ Tk.vals ps = Kn.rests (impl_left.pairs n) s k ∧ Tk.Ok ps) ∧ Aside0 ([a, b] ∈ Kn.rests (impl_left.pairs n) s k ∧ Below w.heap.size w wr))
  case atStart =>
    obtain ⟨ps, h1, h2, h3⟩ := H.out
    obtain ⟨A, c, rfl, _, _⟩ := h1.slice
    exact ⟨0, _, _, c, 0, 1, wo0, A, ps, rfl, rfl, rfl, rfl, ⟨HW.out, by simp [Kn.still], by simp⟩, Nat.le_refl _, ⟨fun j hj => (by have e : j = 0 := (by omega); subst e; exact Nat.zero_lt_two)⟩, ⟨h1, h2, HK.out ps h2⟩, ⟨HAB.out, h3⟩⟩
  case round =>
    obtain ⟨k, bl, lo, c, st, kk, wo, A, ps, rfl, rfl, rfl, rfl, HE, hgg, HJ, HP, HM⟩ := hrel
    clear H HA
    have hN := Kn.pot_bd (A := impl_left.pairs n) (s := s) k (fun j hj => HJ.out j (by omega))
    have hk : k ≤ 3300 := by have := HL.out; omega
    have hs2 := HJ.out k (Nat.le_refl _)
    have HK4 := Aside0.mk hk
    have HPT := Aside0.mk (Kn.pot_succ hs2)
    have hst : st < 2 := by have := HE.out.2.1; omega
    have hst0 : 0 ≤ st := by have := HE.out.2.1; omega
    have hkk0 : 0 ≤ kk := by have := HE.out.2.2; omega
    have hkk1 : kk ≤ 5000 := by have := HE.out.2.2; omega
    clear hN hk hs2
    obtain ⟨rs, hrs⟩ : ∃ rs, rs = impl_behind.sel (Kn.alt s k) 45 ps := ⟨_, rfl⟩
    have T1 : Aside0 (Calls Try.prog 77 #[.slice A ps.length c, .string wo, .int .u8 45] wr fun e w' => ∃ A1 c1, e = .returned (.slice A1 rs.length c1) ∧ Aside0 (Tk.Has 36 3 w' wr.heap.size lo (.slice A1 rs.length c1) rs ∧ Below wr.heap.size wr w')) := ⟨by
      rw [HE.out.1, hrs]
      exact spec_taKnown.says (Kn.alt s k) bl lo c A ps wr HP.out.1 HP.out.2.2⟩
    have HQ : Aside0 (Tk.vals rs = Kn.rests (impl_left.pairs n) s (k + 1) ∧ Tk.Ok rs) := ⟨by
      rw [hrs, impl_behind.sel_vals, HP.out.2.1]
      exact ⟨rfl, impl_behind.sel_ok _ _ _ HP.out.2.2⟩⟩
    have hrl : rs.length ≤ 2000 := HQ.out.2.1
    have hpl : ps.length ≤ 2000 := HP.out.2.2.1
    have T2 : Aside0 (∀ A1 c1 W, Tk.Has 36 3 W wr.heap.size lo (.slice A1 rs.length c1) rs → Calls Try.prog 98 #[.slice A1 rs.length c1, .int .i64 a, .int .i64 b] W fun e w' => e = .returned (.bool (decide ([a, b] ∈ Kn.rests (impl_left.pairs n) s (k + 1)))) ∧ ∃ j, w' = W.drewN j) := ⟨fun A1 c1 W hW => by
      have := spec_taKnown.hass _ lo c1 A1 rs W hW HQ.out.2 a b
      rw [HQ.out.1, spec_taKnown.mem_has (impl_left.pairs n) HT.out _ (fun x hx => Kn.rests_all (k + 1) x hx) a b] at this
      exact this⟩
    clear hrs
    cases hin : decide ([a, b] ∈ Kn.rests (impl_left.pairs n) s (k + 1)) with
    | false =>
      rw [hin] at T2
      have HIN := Aside0.mk (of_decide_eq_false hin)
      clear hin
      go_wp2_with (first
        | (go_at_call 77; refine T1.out.mono ?_; rintro e w3 ⟨A1, c1, rfl, H1⟩; clear T1)
        | (go_at_call 98; refine (T2.out _ _ _ H1.out.1).mono ?_; rintro e w4 ⟨rfl, j4, rfl⟩; clear T2))
      go_ret
      refine ⟨?_, ⟨pw_below_drewN (below_step HM.out.2 H1.out.2) _⟩⟩
      have h1 := Kn.fst_eq HM.out.1 HIN.out (4000 - (k + 1))
      have h2 := HK4.out
      rw [show k + 1 + (4000 - (k + 1)) = 4000 by omega, ← Kn.kt_eq] at h1
      rw [HKT.out, h1, HE.out.2.2]
      rfl
    | true =>
      rw [hin] at T2
      have HIN := Aside0.mk (of_decide_eq_true hin)
      clear hin
      have HC : Aside0 (Kn.still (impl_left.pairs n) s (k + 1) = if rs.length < ps.length then 0 else Kn.still (impl_left.pairs n) s k + 1) := ⟨by
        have e : Kn.still (impl_left.pairs n) s (k + 1) = if (Kn.rests (impl_left.pairs n) s (k + 1)).length < (Kn.rests (impl_left.pairs n) s k).length then 0 else Kn.still (impl_left.pairs n) s k + 1 := rfl
        rw [e, ← HQ.out.1, ← HP.out.2.1, Tk.vals_len, Tk.vals_len]⟩
      have hle : rs.length ≤ ps.length := by
        have := Kn.rests_le (A := impl_left.pairs n) (s := s) k
        rw [← HQ.out.1, ← HP.out.2.1, Tk.vals_len, Tk.vals_len] at this
        exact this
      have HLE := Aside0.mk hle
      clear hle
      have HOW : Aside0 ((wo.toList = [115] ↔ Kn.alt s k = true)) := ⟨by
        rw [HE.out.1]
        cases Kn.alt s k <;> simp [Tk.wh]⟩
      by_cases hlt : rs.length = ps.length
      · have hneq : ((rs.length : Int) != (ps.length : Int)) = false := by simp [hlt]
        have HLT := Aside0.mk hlt
        clear hlt
        by_cases hst1 : st + 1 = 2
        · have hst2 : ((st + 1 : Int) == 2) = true := by simpa using hst1
          have hs1 : st = 1 := by omega
          subst hs1
          have HS1 := Aside0.mk hst1
          clear hst1 hst2 hst hst0
          go_wp2_with (first
            | (go_at_call 77; refine T1.out.mono ?_; rintro e w3 ⟨A1, c1, rfl, H1⟩; clear T1)
            | (go_at_call 98; refine (T2.out _ _ _ H1.out.1).mono ?_; rintro e w4 ⟨rfl, j4, rfl⟩; clear T2))
          go_ret
          refine ⟨?_, ⟨pw_below_drewN (below_step HM.out.2 H1.out.2) _⟩⟩
          have h1 : 2 ≤ Kn.still (impl_left.pairs n) s (k + 1) := by
            have := HC.out
            rw [if_neg (by have := HLT.out; omega)] at this
            have := HE.out.2.1
            omega
          have h2 := HK4.out
          rw [HKT.out, ← Kn.kt_of_end h1 (by omega) HAB.out, Kn.fst_of_in HIN.out]
          rfl
        · have hs1 : st = 0 := by omega
          subst hs1
          clear hst1 hst hst0
          cases hal : Kn.alt s k with
          | true =>
            have hwo : wo.toList = ([115] : List UInt8) := HOW.out.2 hal
            have hwb : (wo.toList == ([115] : List UInt8)) = true := by simp [hwo]
            have HAL := Aside0.mk hal
            clear hal
            go_wp2_with (first
              | (go_at_call 77; refine T1.out.mono ?_; rintro e w3 ⟨A1, c1, rfl, H1⟩; clear T1)
              | (go_at_call 98; refine (T2.out _ _ _ H1.out.1).mono ?_; rintro e w4 ⟨rfl, j4, rfl⟩; clear T2))
            go_roundg (Kn.pot (impl_left.pairs n) s (k + 1))
            case measure => have := HPT.out; omega
            case rel =>
              refine ⟨k + 1, wr.heap.size, lo, c1, 1, kk + 1, _, A1, rs, rfl, rfl, by go_num, by go_num, ⟨by rw [Kn.alt_succ, HAL.out]; rfl, ?_, by rw [HE.out.2.2]; omega⟩, Nat.le_refl _, ⟨fun j hj => ?_⟩, ⟨H1.out.1.below (pw_below_drewN (Below.refl _ _) _), HQ.out.1, HQ.out.2⟩, ⟨HIN.out, pw_below_drewN (below_step HM.out.2 H1.out.2) _⟩⟩
              · rw [HC.out, if_neg (by have := HLT.out; omega)]; have := HE.out.2.1; omega
              · rcases Nat.lt_or_ge j (k + 1) with h | h
                · exact HJ.out j (by omega)
                · obtain rfl : j = k + 1 := by omega
                  rw [HC.out, if_neg (by have := HLT.out; omega)]; have := HE.out.2.1; omega
          | false =>
            have hwo : ¬ wo.toList = ([115] : List UInt8) := fun h => by rw [HOW.out.1 h] at hal; cases hal
            have hwb : (wo.toList == ([115] : List UInt8)) = false := by simp [hwo]
            have HAL := Aside0.mk hal
            clear hal
            go_wp2_with (first
              | (go_at_call 77; refine T1.out.mono ?_; rintro e w3 ⟨A1, c1, rfl, H1⟩; clear T1)
              | (go_at_call 98; refine (T2.out _ _ _ H1.out.1).mono ?_; rintro e w4 ⟨rfl, j4, rfl⟩; clear T2))
            go_roundg (Kn.pot (impl_left.pairs n) s (k + 1))
            case measure => have := HPT.out; omega
            case rel =>
              refine ⟨k + 1, wr.heap.size, lo, c1, 1, kk + 1, _, A1, rs, rfl, rfl, by go_num, by go_num, ⟨by rw [Kn.alt_succ, HAL.out]; rfl, ?_, by rw [HE.out.2.2]; omega⟩, Nat.le_refl _, ⟨fun j hj => ?_⟩, ⟨H1.out.1.below (pw_below_drewN (Below.refl _ _) _), HQ.out.1, HQ.out.2⟩, ⟨HIN.out, pw_below_drewN (below_step HM.out.2 H1.out.2) _⟩⟩
              · rw [HC.out, if_neg (by have := HLT.out; omega)]; have := HE.out.2.1; omega
              · rcases Nat.lt_or_ge j (k + 1) with h | h
                · exact HJ.out j (by omega)
                · obtain rfl : j = k + 1 := by omega
                  rw [HC.out, if_neg (by have := HLT.out; omega)]; have := HE.out.2.1; omega
      · have hneq : ((rs.length : Int) != (ps.length : Int)) = true := by simp; omega
        have hneq2 : ¬ (rs.length : Int) = (ps.length : Int) := by omega
        have HLT := Aside0.mk (show rs.length < ps.length by have := HLE.out; omega)
        clear hlt
        cases hal : Kn.alt s k with
        | true =>
          have hwo : wo.toList = ([115] : List UInt8) := HOW.out.2 hal
          have hwb : (wo.toList == ([115] : List UInt8)) = true := by simp [hwo]
          have HAL := Aside0.mk hal
          clear hal
          go_wp2_with (first
            | (go_at_call 77; refine T1.out.mono ?_; rintro e w3 ⟨A1, c1, rfl, H1⟩; clear T1)
            | (go_at_call 98; refine (T2.out _ _ _ H1.out.1).mono ?_; rintro e w4 ⟨rfl, j4, rfl⟩; clear T2))
          go_roundg (Kn.pot (impl_left.pairs n) s (k + 1))
          case measure => have := HPT.out; omega
          case rel =>
            refine ⟨k + 1, wr.heap.size, lo, c1, 0, kk + 1, _, A1, rs, rfl, rfl, by go_num, by go_num, ⟨by rw [Kn.alt_succ, HAL.out]; rfl, ?_, by rw [HE.out.2.2]; omega⟩, Nat.le_refl _, ⟨fun j hj => ?_⟩, ⟨H1.out.1.below (pw_below_drewN (Below.refl _ _) _), HQ.out.1, HQ.out.2⟩, ⟨HIN.out, pw_below_drewN (below_step HM.out.2 H1.out.2) _⟩⟩
            · rw [HC.out, if_pos HLT.out]; rfl
            · rcases Nat.lt_or_ge j (k + 1) with h | h
              · exact HJ.out j (by omega)
              · obtain rfl : j = k + 1 := by omega
                rw [HC.out, if_pos HLT.out]; omega
        | false =>
          have hwo : ¬ wo.toList = ([115] : List UInt8) := fun h => by rw [HOW.out.1 h] at hal; cases hal
          have hwb : (wo.toList == ([115] : List UInt8)) = false := by simp [hwo]
          have HAL := Aside0.mk hal
          clear hal
          go_wp2_with (first
            | (go_at_call 77; refine T1.out.mono ?_; rintro e w3 ⟨A1, c1, rfl, H1⟩; clear T1)
            | (go_at_call 98; refine (T2.out _ _ _ H1.out.1).mono ?_; rintro e w4 ⟨rfl, j4, rfl⟩; clear T2))
          go_roundg (Kn.pot (impl_left.pairs n) s (k + 1))
          case measure => have := HPT.out; omega
          case rel =>
            refine ⟨k + 1, wr.heap.size, lo, c1, 0, kk + 1, _, A1, rs, rfl, rfl, by go_num, by go_num, ⟨by rw [Kn.alt_succ, HAL.out]; rfl, ?_, by rw [HE.out.2.2]; omega⟩, Nat.le_refl _, ⟨fun j hj => ?_⟩, ⟨H1.out.1.below (pw_below_drewN (Below.refl _ _) _), HQ.out.1, HQ.out.2⟩, ⟨HIN.out, pw_below_drewN (below_step HM.out.2 H1.out.2) _⟩⟩
            · rw [HC.out, if_pos HLT.out]; rfl
            · rcases Nat.lt_or_ge j (k + 1) with h | h
              · exact HJ.out j (by omega)
              · obtain rfl : j = k + 1 := by omega
                rw [HC.out, if_pos HLT.out]; omega
def spec_taKnown.f (n a b : Int) (who : ByteArray) : Option Int := if impl_KnownAfter.pair n a b && Kn.who who then some (impl_KnownAfter.t n a b who) else none
theorem spec_taKnown.calls (n a b : Int) (who : ByteArray) (r : Int) (w : World) (h : spec_taKnown.f n a b who = some r) :
    Calls Try.prog 91 #[.int .i64 n, .int .i64 a, .int .i64 b, .string who] w fun e w' => e = .returned (.int .i64 r) ∧ Below w.heap.size w w' := by
  unfold spec_taKnown.f at h
  split at h
  · rename_i hc
    simp only [Bool.and_eq_true] at hc
    have hp := of_decide_eq_true hc.1
    obtain ⟨m, rfl⟩ := Int.eq_ofNat_of_zero_le (show 0 ≤ n by omega)
    obtain rfl := Option.some.inj h
    have := spec_taKnown.has m (by omega) (Kn.sp who) a b (impl_left.mem_pairs m a b (by omega)) w
    rw [← Kn.wh_of hc.2] at this
    refine this.mono fun e w' he => ⟨he.1.trans ?_, he.2.out⟩
    simp [impl_KnownAfter.t]
  · cases h

end Go.Proofs.Ytlkbphhmahipdaa.P
namespace Go.Proofs.Ytlkbphhmahipdaa.P
open Go.RowKit Go.Proofs.YtlkbphhmahipdaaW.PrintWords Go.Proofs.YtlkbphhmahipdaaW.PrintLast Go.Proofs.YtlkbphhmahipdaaW.PrintMore
attribute [local go_sem] max2_int min2_int max_two min_two max_three min_three max_four min_four   -- for this text's walks alone
set_option linter.unusedVariables false
set_option linter.unusedSimpArgs false

/-! ### spec_TrueTalk: function 35, by hand -/
-- IMPORT Derived.Test.YtlkbphhmahipdaaTk
-- IMPORT Derived.Test.YtlkbphhmahipdaaKm
-- IMPORT Derived.Test.YtlkbphhmahipdaaKn
theorem spec_TrueTalk.in_ (a lo hi : Int) : spec_l1In.f a lo hi = some (decide (lo ≤ a ∧ a ≤ hi)) := by
  unfold spec_l1In.f
  by_cases h1 : lo ≤ a <;> by_cases h2 : a ≤ hi <;> simp [h1, h2] <;> omega
theorem spec_TrueTalk.pair (n a b : Int) : spec_taPair.f n a b = some (impl_KnownAfter.pair n a b) := by
  unfold spec_taPair.f spec_taLimit.f impl_KnownAfter.pair
  simp only [spec_TrueTalk.in_, Option.bind_some]
  by_cases h1 : 2 ≤ n ∧ n ≤ 40 <;> by_cases h2 : 1 ≤ a ∧ a ≤ b <;> by_cases h3 : 1 ≤ b ∧ b ≤ n <;> simp [h1, h2, h3]
theorem spec_TrueTalk.who (who : ByteArray) : spec_taWho.f who = some (Kn.who who) := by
  unfold spec_taWho.f Kn.who
  by_cases h1 : who.toList = [115] <;> by_cases h2 : who.toList = [112] <;> simp [h1, h2]
set_option maxHeartbeats 4000000 in
set_option maxRecDepth 100000 in
theorem spec_TrueTalk.has (n a b : Int) (who : ByteArray) (w : World) :
    Calls Try.prog 35 #[.int .i64 n, .int .i64 a, .int .i64 b, .string who] w fun e w' => e = .returned (if impl_KnownAfter.pair n a b && Kn.who who then .tuple #[.string (Kn.talk (Kn.sp who) (impl_KnownAfter.t n a b who).toNat), .bool true] else .tuple #[.string ⟨#[]⟩, .bool false]) ∧ Below w.heap.size w w' := by
  have TP : Aside0 (∀ W, Calls Try.prog 69 #[.int .i64 n, .int .i64 a, .int .i64 b] W fun e w' => e = .returned (.bool (impl_KnownAfter.pair n a b)) ∧ ∃ j, w' = W.drewN j) := ⟨fun W => (spec_taPair.calls n a b _ W (spec_TrueTalk.pair n a b)).mono fun e w' h => ⟨h.1, h.2.out⟩⟩
  have TW : Aside0 (∀ W, Calls Try.prog 90 #[.string who] W fun e w' => e = .returned (.bool (Kn.who who)) ∧ ∃ j, w' = W.drewN j) := ⟨fun W => (spec_taWho.calls who _ W (spec_TrueTalk.who who)).mono fun e w' h => ⟨h.1, h.2.out⟩⟩
  cases hp : impl_KnownAfter.pair n a b with
  | false =>
    rw [hp] at TP
    clear hp TW
    go_enter Try.func35, Try.ntmps35
    go_wp2_with (go_at_call 69; refine (TP.out _).mono ?_; rintro e w2 ⟨rfl, j2, rfl⟩)
    go_ret2
    exact ⟨rfl, pw_below_drewN (Below.refl _ _) _⟩
  | true =>
    have hpp := of_decide_eq_true hp
    rw [hp] at TP
    cases hw : Kn.who who with
    | false =>
      rw [hw] at TW
      clear hp hw hpp
      go_enter Try.func35, Try.ntmps35
      go_wp2_with (first
        | (go_at_call 69; refine (TP.out _).mono ?_; rintro e w2 ⟨rfl, j2, rfl⟩)
        | (go_at_call 90; refine (TW.out _).mono ?_; rintro e w3 ⟨rfl, j3, rfl⟩))
      go_ret2
      exact ⟨rfl, pw_below_drewN (Below.refl _ _) _⟩
    | true =>
      have ew := Kn.wh_of hw
      rw [hw] at TW
      obtain ⟨m, rfl⟩ := Int.eq_ofNat_of_zero_le (show 0 ≤ n by omega)
      have ht0 : 0 ≤ impl_KnownAfter.t (m : Int) a b who := by unfold impl_KnownAfter.t; omega
      have TK : Aside0 (∀ W, Calls Try.prog 91 #[.int .i64 (m : Int), .int .i64 a, .int .i64 b, .string who] W fun e w' => e = .returned (.int .i64 (impl_KnownAfter.t (m : Int) a b who)) ∧ Aside0 (Below W.heap.size W w')) := ⟨fun W => by
        have := spec_taKnown.has m (by omega) (Kn.sp who) a b (impl_left.mem_pairs m a b (by omega)) W
        rw [← ew] at this
        refine this.mono fun e w' he => ⟨he.1.trans ?_, he.2⟩
        simp [impl_KnownAfter.t]⟩
      have EW := Aside0.mk ew
      clear hp hw hpp ew
      generalize impl_KnownAfter.t (m : Int) a b who = t at TK ht0
      have HT0 := Aside0.mk ht0
      clear ht0
      go_enter Try.func35, Try.ntmps35
      go_wp2_with (first
        | (go_at_call 69; refine (TP.out _).mono ?_; rintro e w2 ⟨rfl, j2, rfl⟩)
        | (go_at_call 90; refine (TW.out _).mono ?_; rintro e w3 ⟨rfl, j3, rfl⟩)
        | (go_at_call 91; refine (TK.out _).mono ?_; rintro e w4 ⟨rfl, H4⟩))
      have HB4 := Aside0.mk (below_step (pw_below_drewN (Below.refl w.heap.size w) _) H4.out)
      go_loopg [3, 11, 12] 12 (fun gg s3 s12 s13 wr => ∃ (i : Nat) (i1 : Int) (wo tk : ByteArray), s3 = .string wo ∧ s12 = .string tk ∧ s13 = .int .i64 i1 ∧ i ≤ 12 ∧ 12 - i ≤ gg ∧ Aside0 (i1 = (i : Int) + 1) ∧ Aside0 (wo = Tk.wh (Kn.alt (Kn.sp who) i) ∧ tk = Kn.tt (Kn.sp who) i ∧ (∀ j : Nat, j < i → (j : Int) + 1 ≠ t) ∧ Below w.heap.size w wr))
      case atStart => exact ⟨0, 1, who, ⟨#[]⟩, rfl, rfl, rfl, Nat.zero_le _, by omega, ⟨by simp⟩, ⟨EW.out, rfl, (fun j hj => absurd hj (Nat.not_lt_zero j)), HB4.out⟩⟩
      case round =>
        obtain ⟨i, i1, wo, tk, rfl, rfl, rfl, hi, hgg, HI, HE⟩ := hrel
        clear HB4
        by_cases hi12 : i < 12
        · have hz : i1 ≤ 12 := by have := HI.out; omega
          have hz0 : 1 ≤ i1 := by have := HI.out; omega
          have hwo : wo.size = 1 := by rw [HE.out.1]; exact Kn.wh_size _
          have htk : tk.size ≤ 24 := by rw [HE.out.2.1, Kn.tt_size]; omega
          by_cases ht : i1 = t
          · have hk0 : tk.size + wo.size ≤ 9223372036854775807 := by omega
            have hk1 : (tk ++ wo).size + 1 ≤ 9223372036854775807 := by rw [ByteArray.size_append]; omega
            have hk0b : decide (tk.size + wo.size ≤ 9223372036854775807) = true := decide_eq_true hk0
            have hk0c : (9223372036854775807 < tk.size + wo.size) = False := eq_false (Nat.not_lt.2 hk0)
            have hk1b : decide ((tk ++ wo).size + 1 ≤ 9223372036854775807) = true := decide_eq_true hk1
            have hk1c : (9223372036854775807 < (tk ++ wo).size + 1) = False := eq_false (Nat.not_lt.2 hk1)
            have hk2 : tk.size + wo.size + 1 ≤ 9223372036854775807 := by omega
            have hk2c : (9223372036854775807 < tk.size + wo.size + 1) = False := eq_false (Nat.not_lt.2 hk2)
            have HTT := Aside0.mk ht
            have htz : (i1 == t) = true := by simpa using ht
            clear hwo htk
            go_wp2
            go_ret2
            refine ⟨?_, HE.out.2.2.2⟩
            have e1 : t.toNat = i + 1 := by have := HTT.out; have := HI.out; omega
            rw [e1]
            unfold Kn.talk
            rw [if_pos (by omega), HE.out.1, HE.out.2.1]
            rfl
          · have htz : (i1 == t) = false := by simpa using ht
            have htd : decide (i1 = t) = false := decide_eq_false ht
            have hk0 : wo.size + 1 ≤ 9223372036854775807 := by omega
            have hk1 : tk.size + (wo ++ (⟨#[45]⟩ : ByteArray)).size ≤ 9223372036854775807 := by rw [ByteArray.size_append]; show tk.size + (wo.size + 1) ≤ _; omega
            have hk0b : decide (wo.size + 1 ≤ 9223372036854775807) = true := decide_eq_true hk0
            have hk0c : (9223372036854775807 < wo.size + 1) = False := eq_false (Nat.not_lt.2 hk0)
            have hk1b : decide (tk.size + (wo ++ (⟨#[45]⟩ : ByteArray)).size ≤ 9223372036854775807) = true := decide_eq_true hk1
            have hk1c : (9223372036854775807 < tk.size + (wo ++ (⟨#[45]⟩ : ByteArray)).size) = False := eq_false (Nat.not_lt.2 hk1)
            have HTT := Aside0.mk ht
            have HOW : Aside0 ((wo.toList = [115] ↔ Kn.alt (Kn.sp who) i = true)) := ⟨by
              rw [HE.out.1]
              cases Kn.alt (Kn.sp who) i <;> simp [Tk.wh]⟩
            clear hwo htk ht
            cases hal : Kn.alt (Kn.sp who) i with
            | true =>
              have hwo : wo.toList = ([115] : List UInt8) := HOW.out.2 hal
              have hwb : (wo.toList == ([115] : List UInt8)) = true := by simp [hwo]
              have HAL := Aside0.mk hal
              clear hal
              go_wp2
              go_roundg (12 - (i + 1))
              case measure => omega
              case rel =>
                refine ⟨i + 1, i1 + 1, _, _, rfl, rfl, by go_num, by omega, Nat.le_refl _, ⟨by have := HI.out; omega⟩, ⟨by rw [Kn.alt_succ, HAL.out]; rfl, by rw [HE.out.1, HE.out.2.1]; rfl, fun j hj => ?_, HE.out.2.2.2⟩⟩
                rcases Nat.lt_succ_iff_lt_or_eq.1 hj with h | rfl
                · exact HE.out.2.2.1 j h
                · have := HTT.out; have := HI.out; omega
            | false =>
              have hwo : ¬ wo.toList = ([115] : List UInt8) := fun h => by rw [HOW.out.1 h] at hal; cases hal
              have hwb : (wo.toList == ([115] : List UInt8)) = false := by simp [hwo]
              have HAL := Aside0.mk hal
              clear hal
              go_wp2
              go_roundg (12 - (i + 1))
              case measure => omega
              case rel =>
                refine ⟨i + 1, i1 + 1, _, _, rfl, rfl, by go_num, by omega, Nat.le_refl _, ⟨by have := HI.out; omega⟩, ⟨by rw [Kn.alt_succ, HAL.out]; rfl, by rw [HE.out.1, HE.out.2.1]; rfl, fun j hj => ?_, HE.out.2.2.2⟩⟩
                rcases Nat.lt_succ_iff_lt_or_eq.1 hj with h | rfl
                · exact HE.out.2.2.1 j h
                · have := HTT.out; have := HI.out; omega
        · have hz : ¬ i1 ≤ 12 := by have := HI.out; omega
          obtain rfl : i = 12 := by omega
          go_wp2
          go_ret2
          refine ⟨?_, HE.out.2.2.2⟩
          have hno := HE.out.2.2.1
          have h0 := HT0.out
          unfold Kn.talk
          rw [if_neg ?_, HE.out.2.1]
          · rfl
          · intro hh
            exact hno (t.toNat - 1) (by omega) (by omega)
def spec_TrueTalk.f (n a b : Int) (who : ByteArray) : Option (ByteArray × Bool) := some (if impl_KnownAfter.pair n a b && Kn.who who then (Kn.talk (Kn.sp who) (impl_KnownAfter.t n a b who).toNat, true) else (⟨#[]⟩, false))
theorem spec_TrueTalk.calls (n a b : Int) (who : ByteArray) (r1 : ByteArray) (r2 : Bool) (w : World) (h : spec_TrueTalk.f n a b who = some (r1, r2)) :
    Calls Try.prog 35 #[.int .i64 n, .int .i64 a, .int .i64 b, .string who] w fun e w' => e = .returned (.tuple #[.string r1, .bool r2]) ∧ Below w.heap.size w w' := by
  unfold spec_TrueTalk.f at h
  have h := Option.some.inj h
  refine (spec_TrueTalk.has n a b who w).mono fun e w' he => ⟨he.1.trans ?_, he.2⟩
  split at h <;> (injection h with h1 h2; subst h1 h2; rename_i hc; simp [hc])

end Go.Proofs.Ytlkbphhmahipdaa.P
namespace Go.Proofs.Ytlkbphhmahipdaa.P
open Go.RowKit Go.Proofs.YtlkbphhmahipdaaW.PrintWords Go.Proofs.YtlkbphhmahipdaaW.PrintLast Go.Proofs.YtlkbphhmahipdaaW.PrintMore
attribute [local go_sem] max2_int min2_int max_two min_two max_three min_three max_four min_four   -- for this text's walks alone
set_option linter.unusedVariables false
set_option linter.unusedSimpArgs false

/-! ### spec_KnownAfter: function 37 -/
def spec_KnownAfter.f (a0 : Int) (a1 : Int) (a2 : Int) (a3 : ByteArray) : Option (Int × Bool) := (spec_taPair.f a0 a1 a2).bind fun t217 => (if t217 = true then ((spec_taWho.f a3).bind fun t218 => (if t218 = true then ((spec_taKnown.f a0 a1 a2 a3).bind fun t219 => (some (t219, decide (t219 > 0)))) else (some (0, false)))) else (some (0, false)))
set_option maxHeartbeats 8000000 in
set_option maxRecDepth 100000 in
theorem spec_KnownAfter.calls (a0 : Int) (a1 : Int) (a2 : Int) (a3 : ByteArray) (r1 : Int) (r2 : Bool) (w : World) (h : spec_KnownAfter.f a0 a1 a2 a3 = some (r1, r2)) :
  Calls Try.prog 37 #[.int .i64 a0, .int .i64 a1, .int .i64 a2, .string a3] w fun e w' => e = .returned (.tuple #[.int .i64 r1, .bool r2]) ∧ Below w.heap.size w w' := by
 have HB := Aside0.mk (Below.refl w.heap.size w)
 have H : ((spec_taPair.f a0 a1 a2).bind fun t217 => (if t217 = true then ((spec_taWho.f a3).bind fun t218 => (if t218 = true then ((spec_taKnown.f a0 a1 a2 a3).bind fun t219 => (some (t219, decide (t219 > 0)))) else (some (0, false)))) else (some (0, false)))) = some (r1, r2) := h
 clear h
 replace H := Option.bind_eq_some_iff.mp H
 obtain ⟨t217, A50, H⟩ := H
 replace H : (if t217 = true then ((spec_taWho.f a3).bind fun t218 => (if t218 = true then ((spec_taKnown.f a0 a1 a2 a3).bind fun t219 => (some (t219, decide (t219 > 0)))) else (some (0, false)))) else (some (0, false))) = some (r1, r2) := H
 have A5 := Aside0.mk A50
 clear A50
 by_cases c6 : t217 = true
 ·subst c6
  have H1 : ((spec_taWho.f a3).bind fun t218 => (if t218 = true then ((spec_taKnown.f a0 a1 a2 a3).bind fun t219 => (some (t219, decide (t219 > 0)))) else (some (0, false)))) = some (r1, r2) := by rw [if_pos rfl] at H; exact H
  clear H
  have H := H1
  clear H1
  replace H := Option.bind_eq_some_iff.mp H
  obtain ⟨t218, A70, H⟩ := H
  replace H : (if t218 = true then ((spec_taKnown.f a0 a1 a2 a3).bind fun t219 => (some (t219, decide (t219 > 0)))) else (some (0, false))) = some (r1, r2) := H
  have A7 := Aside0.mk A70
  clear A70
  by_cases c8 : t218 = true
  ·subst c8
   have H1 : ((spec_taKnown.f a0 a1 a2 a3).bind fun t219 => (some (t219, decide (t219 > 0)))) = some (r1, r2) := by rw [if_pos rfl] at H; exact H
   clear H
   have H := H1
   clear H1
   replace H := Option.bind_eq_some_iff.mp H
   obtain ⟨t219, A90, H⟩ := H
   replace H : (some (t219, decide (t219 > 0))) = some (r1, r2) := H
   have A9 := Aside0.mk A90
   clear A90
   simp only [Option.some.injEq, Prod.mk.injEq] at H
   obtain ⟨rfl, rfl⟩ := H
   go_enter Try.func37, Try.ntmps37
   go_wp2_with (first | ((with_reducible refine gate_callee (f := 69) rfl ?_); refine goesL_ (some 14) rfl rfl Try.func69 (by kernel_rfl) rfl #[.int .i64 a0, .int .i64 a1, .int .i64 a2] rfl (by (try simp only [List.map_toArray, List.map_cons, List.map_nil]); first | done | rfl | (simp only [List.length_drop, List.length_take]; rfl)) ?_; (with_reducible refine (spec_taPair.calls a0 a1 a2 true _ A5.out).mono ?_); rintro e w' ⟨rfl, ⟨nd, rfl⟩⟩; refine ⟨_, rfl, ?_⟩) | (go_at_call 90; (with_reducible refine (spec_taWho.calls a3 true _ A7.out).mono ?_); rintro e w' ⟨rfl, ⟨nd, rfl⟩⟩) | ((with_reducible refine gate_callee (f := 91) rfl ?_); refine goesL_ (some 25) rfl rfl Try.func91 (by kernel_rfl) rfl #[.int .i64 a0, .int .i64 a1, .int .i64 a2, .string a3] rfl (by (try simp only [List.map_toArray, List.map_cons, List.map_nil]); first | done | rfl | (simp only [List.length_drop, List.length_take]; rfl)) ?_; (with_reducible refine (spec_taKnown.calls a0 a1 a2 a3 t219 _ A9.out).mono ?_); rintro e w10 ⟨rfl, hb⟩; refine ⟨_, rfl, ?_⟩; have n0_ := Aside0.mk (below_step (by repeat (first | (with_reducible first | exact HB.out | apply below_alloc | apply pw_below_drewN | apply below_drew1) | exact HB.out)) hb); clear HB; have HB := n0_; clear n0_; (try clear hb); (try clear hb2); (try clear hk); (try clear hi)))
   go_ret2
   exact ⟨by first | rfl | (simp [errW_none, errW_some] <;> rfl) | (simp [*, errW_none, errW_some] <;> rfl), by repeat (first | (with_reducible first | exact HB.out | apply below_alloc | apply pw_below_drewN | apply below_drew1) | exact HB.out)⟩
  ·replace c8 := Bool.eq_false_iff.mpr c8
   subst c8
   have H1 : (some (0, false)) = some (r1, r2) := by rw [if_neg (show ¬ (false = true) by decide)] at H; exact H
   clear H
   have H := H1
   clear H1
   simp only [Option.some.injEq, Prod.mk.injEq] at H
   obtain ⟨rfl, rfl⟩ := H
   go_enter Try.func37, Try.ntmps37
   go_wp2_with (first | ((with_reducible refine gate_callee (f := 69) rfl ?_); refine goesL_ (some 14) rfl rfl Try.func69 (by kernel_rfl) rfl #[.int .i64 a0, .int .i64 a1, .int .i64 a2] rfl (by (try simp only [List.map_toArray, List.map_cons, List.map_nil]); first | done | rfl | (simp only [List.length_drop, List.length_take]; rfl)) ?_; (with_reducible refine (spec_taPair.calls a0 a1 a2 true _ A5.out).mono ?_); rintro e w' ⟨rfl, ⟨nd, rfl⟩⟩; refine ⟨_, rfl, ?_⟩) | (go_at_call 90; (with_reducible refine (spec_taWho.calls a3 false _ A7.out).mono ?_); rintro e w' ⟨rfl, ⟨nd, rfl⟩⟩))
   go_ret2
   exact ⟨by first | rfl | (simp [errW_none, errW_some] <;> rfl) | (simp [*, errW_none, errW_some] <;> rfl), by repeat (first | (with_reducible first | exact HB.out | apply below_alloc | apply pw_below_drewN | apply below_drew1) | exact HB.out)⟩
 ·replace c6 := Bool.eq_false_iff.mpr c6
  subst c6
  have H1 : (some (0, false)) = some (r1, r2) := by rw [if_neg (show ¬ (false = true) by decide)] at H; exact H
  clear H
  have H := H1
  clear H1
  simp only [Option.some.injEq, Prod.mk.injEq] at H
  obtain ⟨rfl, rfl⟩ := H
  go_enter Try.func37, Try.ntmps37
  go_wp2_with (first | ((with_reducible refine gate_callee (f := 69) rfl ?_); refine goesL_ (some 14) rfl rfl Try.func69 (by kernel_rfl) rfl #[.int .i64 a0, .int .i64 a1, .int .i64 a2] rfl (by (try simp only [List.map_toArray, List.map_cons, List.map_nil]); first | done | rfl | (simp only [List.length_drop, List.length_take]; rfl)) ?_; (with_reducible refine (spec_taPair.calls a0 a1 a2 false _ A5.out).mono ?_); rintro e w' ⟨rfl, ⟨nd, rfl⟩⟩; refine ⟨_, rfl, ?_⟩))
  go_ret2
  exact ⟨by first | rfl | (simp [errW_none, errW_some] <;> rfl) | (simp [*, errW_none, errW_some] <;> rfl), by repeat (first | (with_reducible first | exact HB.out | apply below_alloc | apply pw_below_drewN | apply below_drew1) | exact HB.out)⟩

/-! ### impl_IsTrueTalk: function 38 -/
def impl_IsTrueTalk.f (a0 : Int) (a1 : Int) (a2 : Int) (a3 : ByteArray) : Option (Bool × Bool) := (impl_isPair.f a0 a1 a2).bind fun t220 => (if t220 = true then ((impl_isTalk.f a3).bind fun t221 => (if t221 = true then ((impl_isTrue.f a0 a1 a2 a3).bind fun t222 => (some (t222, true))) else (some (false, false)))) else (some (false, false)))
set_option maxHeartbeats 8000000 in
set_option maxRecDepth 100000 in
theorem impl_IsTrueTalk.calls (a0 : Int) (a1 : Int) (a2 : Int) (a3 : ByteArray) (r1 : Bool) (r2 : Bool) (w : World) (h : impl_IsTrueTalk.f a0 a1 a2 a3 = some (r1, r2)) :
  Calls Try.prog 38 #[.int .i64 a0, .int .i64 a1, .int .i64 a2, .string a3] w fun e w' => e = .returned (.tuple #[.bool r1, .bool r2]) ∧ Below w.heap.size w w' := by
 have HB := Aside0.mk (Below.refl w.heap.size w)
 have H : ((impl_isPair.f a0 a1 a2).bind fun t220 => (if t220 = true then ((impl_isTalk.f a3).bind fun t221 => (if t221 = true then ((impl_isTrue.f a0 a1 a2 a3).bind fun t222 => (some (t222, true))) else (some (false, false)))) else (some (false, false)))) = some (r1, r2) := h
 clear h
 replace H := Option.bind_eq_some_iff.mp H
 obtain ⟨t220, A50, H⟩ := H
 replace H : (if t220 = true then ((impl_isTalk.f a3).bind fun t221 => (if t221 = true then ((impl_isTrue.f a0 a1 a2 a3).bind fun t222 => (some (t222, true))) else (some (false, false)))) else (some (false, false))) = some (r1, r2) := H
 have A5 := Aside0.mk A50
 clear A50
 by_cases c6 : t220 = true
 ·subst c6
  have H1 : ((impl_isTalk.f a3).bind fun t221 => (if t221 = true then ((impl_isTrue.f a0 a1 a2 a3).bind fun t222 => (some (t222, true))) else (some (false, false)))) = some (r1, r2) := by rw [if_pos rfl] at H; exact H
  clear H
  have H := H1
  clear H1
  replace H := Option.bind_eq_some_iff.mp H
  obtain ⟨t221, A70, H⟩ := H
  replace H : (if t221 = true then ((impl_isTrue.f a0 a1 a2 a3).bind fun t222 => (some (t222, true))) else (some (false, false))) = some (r1, r2) := H
  have A7 := Aside0.mk A70
  clear A70
  by_cases c8 : t221 = true
  ·subst c8
   have H1 : ((impl_isTrue.f a0 a1 a2 a3).bind fun t222 => (some (t222, true))) = some (r1, r2) := by rw [if_pos rfl] at H; exact H
   clear H
   have H := H1
   clear H1
   replace H := Option.bind_eq_some_iff.mp H
   obtain ⟨t222, A90, H⟩ := H
   replace H : (some (t222, true)) = some (r1, r2) := H
   have A9 := Aside0.mk A90
   clear A90
   simp only [Option.some.injEq, Prod.mk.injEq] at H
   obtain ⟨rfl, rfl⟩ := H
   go_enter Try.func38, Try.ntmps38
   go_wp2_with (first | ((with_reducible refine gate_callee (f := 80) rfl ?_); refine goesL_ (some 13) rfl rfl Try.func80 (by kernel_rfl) rfl #[.int .i64 a0, .int .i64 a1, .int .i64 a2] rfl (by (try simp only [List.map_toArray, List.map_cons, List.map_nil]); first | done | rfl | (simp only [List.length_drop, List.length_take]; rfl)) ?_; (with_reducible refine (impl_isPair.calls a0 a1 a2 true _ A5.out).mono ?_); rintro e w' ⟨rfl, ⟨nd, rfl⟩⟩; refine ⟨_, rfl, ?_⟩) | (go_at_call 75; (with_reducible refine (impl_isTalk.calls a3 true _ A7.out).mono ?_); rintro e w10 ⟨rfl, hb⟩; have n0_ := Aside0.mk (below_step (by repeat (first | (with_reducible first | exact HB.out | apply below_alloc | apply pw_below_drewN | apply below_drew1) | exact HB.out)) hb); clear HB; have HB := n0_; clear n0_; (try clear hb); (try clear hb2); (try clear hk); (try clear hi)) | ((with_reducible refine gate_callee (f := 81) rfl ?_); refine goesL_ (some 24) rfl rfl Try.func81 (by kernel_rfl) rfl #[.int .i64 a0, .int .i64 a1, .int .i64 a2, .string a3] rfl (by (try simp only [List.map_toArray, List.map_cons, List.map_nil]); first | done | rfl | (simp only [List.length_drop, List.length_take]; rfl)) ?_; (with_reducible refine (impl_isTrue.calls a0 a1 a2 a3 t222 _ A9.out).mono ?_); rintro e w11 ⟨rfl, hb⟩; refine ⟨_, rfl, ?_⟩; have n0_ := Aside0.mk (below_step (by repeat (first | (with_reducible first | exact HB.out | apply below_alloc | apply pw_below_drewN | apply below_drew1) | exact HB.out)) hb); clear HB; have HB := n0_; clear n0_; (try clear hb); (try clear hb2); (try clear hk); (try clear hi)))
   go_ret2
   exact ⟨by first | rfl | (simp [errW_none, errW_some] <;> rfl) | (simp [*, errW_none, errW_some] <;> rfl), by repeat (first | (with_reducible first | exact HB.out | apply below_alloc | apply pw_below_drewN | apply below_drew1) | exact HB.out)⟩
  ·replace c8 := Bool.eq_false_iff.mpr c8
   subst c8
   have H1 : (some (false, false)) = some (r1, r2) := by rw [if_neg (show ¬ (false = true) by decide)] at H; exact H
   clear H
   have H := H1
   clear H1
   simp only [Option.some.injEq, Prod.mk.injEq] at H
   obtain ⟨rfl, rfl⟩ := H
   go_enter Try.func38, Try.ntmps38
   go_wp2_with (first | ((with_reducible refine gate_callee (f := 80) rfl ?_); refine goesL_ (some 13) rfl rfl Try.func80 (by kernel_rfl) rfl #[.int .i64 a0, .int .i64 a1, .int .i64 a2] rfl (by (try simp only [List.map_toArray, List.map_cons, List.map_nil]); first | done | rfl | (simp only [List.length_drop, List.length_take]; rfl)) ?_; (with_reducible refine (impl_isPair.calls a0 a1 a2 true _ A5.out).mono ?_); rintro e w' ⟨rfl, ⟨nd, rfl⟩⟩; refine ⟨_, rfl, ?_⟩) | (go_at_call 75; (with_reducible refine (impl_isTalk.calls a3 false _ A7.out).mono ?_); rintro e w12 ⟨rfl, hb⟩; have n0_ := Aside0.mk (below_step (by repeat (first | (with_reducible first | exact HB.out | apply below_alloc | apply pw_below_drewN | apply below_drew1) | exact HB.out)) hb); clear HB; have HB := n0_; clear n0_; (try clear hb); (try clear hb2); (try clear hk); (try clear hi)))
   go_ret2
   exact ⟨by first | rfl | (simp [errW_none, errW_some] <;> rfl) | (simp [*, errW_none, errW_some] <;> rfl), by repeat (first | (with_reducible first | exact HB.out | apply below_alloc | apply pw_below_drewN | apply below_drew1) | exact HB.out)⟩
 ·replace c6 := Bool.eq_false_iff.mpr c6
  subst c6
  have H1 : (some (false, false)) = some (r1, r2) := by rw [if_neg (show ¬ (false = true) by decide)] at H; exact H
  clear H
  have H := H1
  clear H1
  simp only [Option.some.injEq, Prod.mk.injEq] at H
  obtain ⟨rfl, rfl⟩ := H
  go_enter Try.func38, Try.ntmps38
  go_wp2_with (first | ((with_reducible refine gate_callee (f := 80) rfl ?_); refine goesL_ (some 13) rfl rfl Try.func80 (by kernel_rfl) rfl #[.int .i64 a0, .int .i64 a1, .int .i64 a2] rfl (by (try simp only [List.map_toArray, List.map_cons, List.map_nil]); first | done | rfl | (simp only [List.length_drop, List.length_take]; rfl)) ?_; (with_reducible refine (impl_isPair.calls a0 a1 a2 false _ A5.out).mono ?_); rintro e w' ⟨rfl, ⟨nd, rfl⟩⟩; refine ⟨_, rfl, ?_⟩))
  go_ret2
  exact ⟨by first | rfl | (simp [errW_none, errW_some] <;> rfl) | (simp [*, errW_none, errW_some] <;> rfl), by repeat (first | (with_reducible first | exact HB.out | apply below_alloc | apply pw_below_drewN | apply below_drew1) | exact HB.out)⟩

end Go.Proofs.Ytlkbphhmahipdaa.P
namespace Go.Proofs.Ytlkbphhmahipdaa.P
open Go.RowKit Go.Proofs.YtlkbphhmahipdaaW.PrintWords Go.Proofs.YtlkbphhmahipdaaW.PrintLast Go.Proofs.YtlkbphhmahipdaaW.PrintMore
attribute [local go_sem] max2_int min2_int max_two min_two max_three min_three max_four min_four   -- for this text's walks alone
set_option linter.unusedVariables false
set_option linter.unusedSimpArgs false

/-! ### impl_CountNeverKnown: function 43, by hand -/
-- IMPORT Derived.Test.YtlkbphhmahipdaaTk
-- IMPORT Derived.Test.YtlkbphhmahipdaaKm
-- IMPORT Derived.Test.YtlkbphhmahipdaaKn
/-- Is there a limit? -/
def impl_CountNeverKnown.most (n : Int) : Bool := decide (2 ≤ n ∧ n ≤ 40)
/-- How many pairs are never known. -/
def impl_CountNeverKnown.n (n : Int) (who : ByteArray) : Int := ((impl_left.pairs n.toNat).countP fun x => decide (Kn.kt (impl_left.pairs n.toNat) (Kn.sp who) x = 0) : Nat)
theorem impl_CountNeverKnown.told (n : Int) : impl_isMost.f n = some (impl_CountNeverKnown.most n) := by
  unfold impl_isMost.f impl_CountNeverKnown.most
  simp only [impl_between.tolds, Option.bind_some]
set_option maxHeartbeats 4000000 in
set_option maxRecDepth 100000 in
theorem impl_CountNeverKnown.has (n : Int) (who : ByteArray) (w : World) :
    Calls Try.prog 43 #[.int .i64 n, .string who] w fun e w' => e = .returned (if impl_CountNeverKnown.most n && Kn.who who then .tuple #[.int .i64 (impl_CountNeverKnown.n n who), .bool true] else .tuple #[.int .i64 0, .bool false]) ∧ Below w.heap.size w w' := by
  have TP : Aside0 (∀ W, Calls Try.prog 74 #[.int .i64 n] W fun e w' => e = .returned (.bool (impl_CountNeverKnown.most n)) ∧ ∃ j, w' = W.drewN j) := ⟨fun W => (impl_isMost.calls n _ W (impl_CountNeverKnown.told n)).mono fun e w' h => ⟨h.1, h.2.out⟩⟩
  have TW : Aside0 (∀ W, Calls Try.prog 87 #[.string who] W fun e w' => e = .returned (.bool (Kn.who who)) ∧ ∃ j, w' = W.drewN j) := ⟨fun W => (impl_isWho.calls who _ W (impl_isWho.told who)).mono fun e w' h => ⟨h.1, h.2.out⟩⟩
  cases hp : impl_CountNeverKnown.most n with
  | false =>
    rw [hp] at TP
    clear hp TW
    go_enter Try.func43, Try.ntmps43
    go_wp2_with (go_at_call 74; refine (TP.out _).mono ?_; rintro e w2 ⟨rfl, j2, rfl⟩)
    go_ret2
    exact ⟨rfl, pw_below_drewN (Below.refl _ _) _⟩
  | true =>
    have hpp := of_decide_eq_true hp
    rw [hp] at TP
    cases hw : Kn.who who with
    | false =>
      rw [hw] at TW
      clear hp hw hpp
      go_enter Try.func43, Try.ntmps43
      go_wp2_with (first
        | (go_at_call 74; refine (TP.out _).mono ?_; rintro e w2 ⟨rfl, j2, rfl⟩)
        | (go_at_call 87; refine (TW.out _).mono ?_; rintro e w3 ⟨rfl, j3, rfl⟩))
      go_ret2
      exact ⟨rfl, pw_below_drewN (Below.refl _ _) _⟩
    | true =>
      have ew := Kn.wh_of hw
      rw [hw] at TW
      obtain ⟨m, rfl⟩ := Int.eq_ofNat_of_zero_le (show 0 ≤ n by omega)
      have hle := impl_left.pairs_le m (by omega)
      have TA : Aside0 (∀ W, Calls Try.prog 92 #[.int .i64 (m : Int)] W fun e w' => ∃ A c, e = .returned (.slice A (impl_left.pairs m).length c) ∧ Aside0 (Below W.heap.size W w')) := ⟨fun W => (impl_allPairs.has m (by omega) W).mono fun e w' he => by
        obtain ⟨v, rfl, ps, h1, h2, h3⟩ := he
        obtain ⟨A, c, rfl, _, _⟩ := h1.slice
        exact ⟨A, c, by rw [← h2, Tk.vals_len], ⟨h3⟩⟩⟩
      have TK : Aside0 (∃ L : Nat, L + (impl_left.pairs m).countP (fun x => decide (Kn.kt (impl_left.pairs m) (Kn.sp who) x = 0)) = (impl_left.pairs m).length ∧ ∀ W, Calls Try.prog 88 #[.int .i64 (m : Int), .string who] W fun e w' => ∃ M : Nat, e = .returned (.map (some M)) ∧ (∀ ty, (Builtin.len_ #[85] ty #[.map (some M)]).run Try.prog w' = .ok (.int .i64 (L : Int)) w') ∧ Aside0 (Below W.heap.size W w')) := ⟨by
        have hc : (impl_left.pairs m).countP (fun x => decide (Kn.kt (impl_left.pairs m) (Kn.sp who) x = 0)) ≤ (impl_left.pairs m).length := List.countP_le_length
        refine ⟨(impl_left.pairs m).length - (impl_left.pairs m).countP (fun x => decide (Kn.kt (impl_left.pairs m) (Kn.sp who) x = 0)), by omega, fun W => ?_⟩
        have := impl_knowing.tells m (by omega) (Kn.sp who) W
        rw [← ew] at this
        exact this.mono fun e w' he => by
          obtain ⟨M, rfl, h⟩ := he
          obtain ⟨L, h1, h2⟩ := (h.out.1 w' (Below.refl _ _)).2
          refine ⟨M, rfl, fun ty => ?_, ⟨h.out.2⟩⟩
          rw [h2 ty]
          congr 3
          omega⟩
      have en : impl_CountNeverKnown.n (m : Int) who = (((impl_left.pairs m).countP (fun x => decide (Kn.kt (impl_left.pairs m) (Kn.sp who) x = 0)) : Nat) : Int) := by simp [impl_CountNeverKnown.n]
      rw [en]
      clear hp hw hpp ew en
      obtain ⟨L, hL, hcall⟩ := TK.out
      have TK2 := Aside0.mk hcall
      generalize (impl_left.pairs m).countP (fun x => decide (Kn.kt (impl_left.pairs m) (Kn.sp who) x = 0)) = C at hL
      generalize (impl_left.pairs m).length = N at hL TA hle
      have hn0 : (N : Int) ≤ 1600 := by omega
      have hl0 : (L : Int) ≤ 1600 := by omega
      have hHL := Aside0.mk (show (N : Int) - (L : Int) = (C : Int) by omega)
      clear hcall TK hL hle
      go_enter Try.func43, Try.ntmps43
      go_wp2_with (first
        | (go_at_call 74; refine (TP.out _).mono ?_; rintro e w2 ⟨rfl, j2, rfl⟩)
        | (go_at_call 87; refine (TW.out _).mono ?_; rintro e w3 ⟨rfl, j3, rfl⟩)
        | (go_at_call 92; refine (TA.out _).mono ?_; rintro e w4 ⟨A, c, rfl, H4⟩)
        | (go_at_call 88; refine (TK2.out _).mono ?_; rintro e w5 ⟨M, rfl, hlen, H5⟩))
      go_ret2
      refine ⟨?_, below_step (below_step (pw_below_drewN (Below.refl _ _) _) H4.out) H5.out⟩
      first | (rw [← hHL.out]; done) | (rw [← hHL.out]; rfl) | (rw [← hHL.out]; congr 3; exact IntWalk.i64_in _ (by omega))
def impl_CountNeverKnown.f (n : Int) (who : ByteArray) : Option (Int × Bool) := some (if impl_CountNeverKnown.most n && Kn.who who then (impl_CountNeverKnown.n n who, true) else (0, false))
theorem impl_CountNeverKnown.calls (n : Int) (who : ByteArray) (r1 : Int) (r2 : Bool) (w : World) (h : impl_CountNeverKnown.f n who = some (r1, r2)) :
    Calls Try.prog 43 #[.int .i64 n, .string who] w fun e w' => e = .returned (.tuple #[.int .i64 r1, .bool r2]) ∧ Below w.heap.size w w' := by
  unfold impl_CountNeverKnown.f at h
  have h := Option.some.inj h
  refine (impl_CountNeverKnown.has n who w).mono fun e w' he => ⟨he.1.trans ?_, he.2⟩
  split at h <;> (injection h with h1 h2; subst h1 h2; rename_i hc; simp [hc])

end Go.Proofs.Ytlkbphhmahipdaa.P
namespace Go.Proofs.Ytlkbphhmahipdaa.P
open Go.RowKit Go.Proofs.YtlkbphhmahipdaaW.PrintWords Go.Proofs.YtlkbphhmahipdaaW.PrintLast Go.Proofs.YtlkbphhmahipdaaW.PrintMore
attribute [local go_sem] max2_int min2_int max_two min_two max_three min_three max_four min_four   -- for this text's walks alone
set_option linter.unusedVariables false
set_option linter.unusedSimpArgs false

/-! ### impl_LongestTalk: function 39, by hand -/
-- IMPORT Derived.Test.YtlkbphhmahipdaaTk
-- IMPORT Derived.Test.YtlkbphhmahipdaaKm
-- IMPORT Derived.Test.YtlkbphhmahipdaaKn
-- IMPORT Derived.BigQuiet
/-- The first pair that is known last, and behind how many statements. -/
def impl_LongestTalk.b (n : Int) (who : ByteArray) : List Int × Nat := Kn.best (impl_left.pairs n.toNat) (Kn.sp who) (impl_left.pairs n.toNat)
set_option maxHeartbeats 4000000 in
set_option maxRecDepth 100000 in
theorem impl_LongestTalk.has (n : Int) (who : ByteArray) (w : World) :
    Calls Try.prog 39 #[.int .i64 n, .string who] w fun e w' => e = .returned (if impl_CountNeverKnown.most n && Kn.who who then .tuple #[.int .i64 (rd (impl_LongestTalk.b n who).1 0), .int .i64 (rd (impl_LongestTalk.b n who).1 1), .int .i64 ((impl_LongestTalk.b n who).2 : Int), .bool (decide (0 < ((impl_LongestTalk.b n who).2 : Int)))] else .tuple #[.int .i64 0, .int .i64 0, .int .i64 0, .bool false]) ∧ Below w.heap.size w w' := by
  have TP : Aside0 (∀ W, Calls Try.prog 74 #[.int .i64 n] W fun e w' => e = .returned (.bool (impl_CountNeverKnown.most n)) ∧ ∃ j, w' = W.drewN j) := ⟨fun W => (impl_isMost.calls n _ W (impl_CountNeverKnown.told n)).mono fun e w' h => ⟨h.1, h.2.out⟩⟩
  have TW : Aside0 (∀ W, Calls Try.prog 87 #[.string who] W fun e w' => e = .returned (.bool (Kn.who who)) ∧ ∃ j, w' = W.drewN j) := ⟨fun W => (impl_isWho.calls who _ W (impl_isWho.told who)).mono fun e w' h => ⟨h.1, h.2.out⟩⟩
  cases hp : impl_CountNeverKnown.most n with
  | false =>
    rw [hp] at TP
    clear hp TW
    go_enter Try.func39, Try.ntmps39
    go_wp2_with (go_at_call 74; refine (TP.out _).mono ?_; rintro e w2 ⟨rfl, j2, rfl⟩)
    (try simp only [Exit.inBlock, Exit.then])
    refine bodyPost_ret (results_list (rs := [.tmp 4, .tmp 5, .tmp 6, .tmp 7]) rfl (by simp) (.tmp (.tmp (.tmp (.tmp .nil))))) rfl ?_
    exact ⟨rfl, pw_below_drewN (Below.refl _ _) _⟩
  | true =>
    have hpp := of_decide_eq_true hp
    rw [hp] at TP
    cases hw : Kn.who who with
    | false =>
      rw [hw] at TW
      clear hp hw hpp
      go_enter Try.func39, Try.ntmps39
      go_wp2_with (first
        | (go_at_call 74; refine (TP.out _).mono ?_; rintro e w2 ⟨rfl, j2, rfl⟩)
        | (go_at_call 87; refine (TW.out _).mono ?_; rintro e w3 ⟨rfl, j3, rfl⟩))
      (try simp only [Exit.inBlock, Exit.then])
      refine bodyPost_ret (results_list (rs := [.tmp 4, .tmp 5, .tmp 6, .tmp 7]) rfl (by simp) (.tmp (.tmp (.tmp (.tmp .nil))))) rfl ?_
      exact ⟨rfl, pw_below_drewN (Below.refl _ _) _⟩
    | true =>
      have ew := Kn.wh_of hw
      rw [hw] at TW
      obtain ⟨m, rfl⟩ := Int.eq_ofNat_of_zero_le (show 0 ≤ n by omega)
      have en : impl_LongestTalk.b (m : Int) who = Kn.best (impl_left.pairs m) (Kn.sp who) (impl_left.pairs m) := by simp [impl_LongestTalk.b]
      have EN := Aside0.mk en
      have HK := Aside0.mk (fun ps => impl_left.ok_all (fun _ _ => true) m (by omega) ps)
      have TA : Aside0 (∀ W, Calls Try.prog 92 #[.int .i64 (m : Int)] W fun e w' => ∃ (A : Option Addr) (c : Nat) (ps : List Tk.PP), e = .returned (.slice A ps.length c) ∧ Aside0 (Tk.Has 36 3 w' W.heap.size W.heap.size (.slice A ps.length c) ps ∧ Tk.vals ps = impl_left.pairs m ∧ Below W.heap.size W w')) := ⟨fun W => (impl_allPairs.has m (by omega) W).mono fun e w' he => by
        obtain ⟨v, rfl, ps, h1, h2, h3⟩ := he
        obtain ⟨A, c, rfl, _, _⟩ := h1.slice
        exact ⟨A, c, ps, rfl, ⟨h1, h2, h3⟩⟩⟩
      have HM2 : Aside0 (∀ x ∈ impl_left.pairs m, ∃ a b : Int, x = [a, b] ∧ 1 ≤ a ∧ a ≤ b ∧ b ≤ (m : Int)) := ⟨fun x hx => impl_left.all_mem _ m x hx⟩
      have TK : Aside0 (∀ W, Calls Try.prog 88 #[.int .i64 (m : Int), .string who] W fun e w' => ∃ M : Nat, e = .returned (.map (some M)) ∧ Aside0 ((∀ W', Below w'.heap.size w' W' → ∀ (a b : Int), 1 ≤ a ∧ a ≤ b ∧ b ≤ (m : Int) → (Instr.lookup 85 (.map (some M)) (.agg #[.int .i64 a, .int .i64 b]) false).run Try.prog W' = .ok (.int .i64 (Kn.kt (impl_left.pairs m) (Kn.sp who) [a, b] : Int)) W') ∧ Below W.heap.size W w')) := ⟨fun W => by
        have := impl_knowing.tells m (by omega) (Kn.sp who) W
        rw [← ew] at this
        exact this.mono fun e w' he => by
          obtain ⟨M, rfl, h⟩ := he
          refine ⟨M, rfl, ⟨fun W' hW' a b hab => ?_, h.out.2⟩⟩
          rw [(h.out.1 W' hW').1 a b false hab]
          rfl⟩
      clear hp hw hpp ew en
      go_enter Try.func39, Try.ntmps39
      go_wp2_with (first
        | (go_at_call 74; refine (TP.out _).mono ?_; rintro e w2 ⟨rfl, j2, rfl⟩)
        | (go_at_call 87; refine (TW.out _).mono ?_; rintro e w3 ⟨rfl, j3, rfl⟩)
        | (go_at_call 88; refine (TK.out _).mono ?_; rintro e w5 ⟨M, rfl, H5⟩)
        | (go_at_call 92; refine (TA.out _).mono ?_; rintro e w4 ⟨A, c, ps, rfl, H4⟩))
      have hpl : ps.length ≤ 2000 := (HK.out ps H4.out.2.1).1
      go_loopg [8, 9, 29] ps.length (fun gg s8 s9 s29 wr => ∃ (k B : Nat) (x y lg : Int), s8 = .slice (some ⟨B, 0, none⟩) 2 2 ∧ s9 = .int .i64 lg ∧ s29 = .int .i64 (k : Int) ∧ k ≤ ps.length ∧ ps.length - k ≤ gg ∧ Aside0 (wr.heap[B]? = some (.cells #[.int .i64 x, .int .i64 y] 3 (0, 0)) ∧ (∃ ln : Nat, lg = (ln : Int) ∧ Kn.best (impl_left.pairs m) (Kn.sp who) ((impl_left.pairs m).take k) = ([x, y], ln)) ∧ Below w4.heap.size w4 wr))
      case atStart =>
        refine ⟨0, _, 0, 0, 0, rfl, rfl, rfl, Nat.zero_le _, by omega, ⟨?_, ⟨0, rfl, rfl⟩, Below.refl _ _⟩⟩
        have h1 : ∀ (W : World) (o : Obj), (W.alloc o).heap[W.heap.size]? = some o := fun W o => by
          show (W.heap.push o)[W.heap.size]? = _
          simp
        have h2 := H5.out.2
        have h3 := H4.out.2.2
        have hb := below_step h2 h3
        rw [hb.block _ (by simp)]
        exact h1 _ _
      case round =>
        obtain ⟨k, B, x, y, lg, rfl, rfl, rfl, hk, hgg, HS⟩ := hrel
        by_cases hkl : k < ps.length
        · have hkz : (k : Int) < (ps.length : Int) := by omega
          have hH := H4.out.1.below HS.out.2.2
          obtain ⟨g, cap, ev, hcell⟩ := hH.at_ k hkl
          obtain ⟨rfl, rfl⟩ : A = some ⟨g, 0, none⟩ ∧ c = cap := by injection ev with e1 e2 e3; exact ⟨e1, e3⟩
          obtain ⟨p, hpe⟩ : ∃ p, p = ps[k] := ⟨_, rfl⟩
          rw [← hpe] at hcell
          have hpm : p ∈ ps := by rw [hpe]; exact List.getElem_mem hkl
          obtain ⟨Bp, a, b⟩ := p
          obtain ⟨hc0, hc1⟩ := hH.inn.cells _ hpm
          dsimp only at hc0 hc1
          have hin := (hH.inn _ hpm).2
          dsimp only at hin
          have hvl : [a, b] ∈ impl_left.pairs m := by rw [← H4.out.2.1]; exact List.mem_map.2 ⟨_, hpm, rfl⟩
          obtain ⟨a', b', eab, hab⟩ := HM2.out _ hvl
          obtain ⟨rfl, rfl⟩ : a = a' ∧ b = b' := by injection eab with e1 e2; injection e2 with e2; exact ⟨e1, e2⟩
          have hlk := H5.out.1 wr (below_step H4.out.2.2 HS.out.2.2) a b hab
          have harr : (Instr.arrayAt 87 (.slice (some ⟨Bp, 0, none⟩) 2 2)).run Try.prog wr = .ok (.pointer (some ⟨Bp, 0, none⟩)) wr := by
            simp [Instr.arrayAt, run_underlying Try.underlying87, Result.andThen]
          obtain ⟨tn, htn⟩ : ∃ tn, tn = Kn.kt (impl_left.pairs m) (Kn.sp who) [a, b] := ⟨_, rfl⟩
          rw [← htn] at hlk
          have HST : Aside0 (Kn.best (impl_left.pairs m) (Kn.sp who) ((impl_left.pairs m).take (k + 1)) = (if lg < (tn : Int) then ([a, b], tn) else Kn.best (impl_left.pairs m) (Kn.sp who) ((impl_left.pairs m).take k))) := ⟨by
            obtain ⟨ln, e1, e2⟩ := HS.out.2.1
            have hkl' : k < (impl_left.pairs m).length := by rw [← H4.out.2.1, Tk.vals_len]; exact hkl
            have ex : (impl_left.pairs m)[k] = [a, b] := by
              have : (Tk.vals ps)[k]'(by rw [Tk.vals_len]; exact hkl) = [a, b] := by simp [Tk.vals, ← hpe, Tk.vl]
              rw [← this]
              congr 1
              exact H4.out.2.1.symm
            rw [List.take_succ_eq_append_getElem hkl', Kn.best_snoc, ex, Kn.stepT, ← htn, e2, e1]
            by_cases h : ln < tn
            · rw [if_pos h, if_pos (by omega)]
            · rw [if_neg h, if_neg (by omega)]⟩
          have HBp := Aside0.mk hin
          unfold Tk.cv at hcell
          dsimp only at hcell
          clear hpe hpm ev hH hvl eab hab htn hin
          by_cases hgt : lg < (tn : Int)
          · go_wp2
            go_roundg (ps.length - (k + 1))
            case measure => omega
            case rel => exact ⟨k + 1, Bp, a, b, (tn : Int), rfl, rfl, by go_num, by omega, Nat.le_refl _, ⟨HBp.out, ⟨tn, rfl, by rw [HST.out, if_pos hgt]⟩, HS.out.2.2⟩⟩
          · go_wp2
            go_roundg (ps.length - (k + 1))
            case measure => omega
            case rel => exact ⟨k + 1, B, x, y, lg, rfl, rfl, by go_num, by omega, Nat.le_refl _, ⟨HS.out.1, (by obtain ⟨ln, e1, e2⟩ := HS.out.2.1; exact ⟨ln, e1, by rw [HST.out, if_neg (by omega)]; exact e2⟩), HS.out.2.2⟩⟩
        · have hkz : ¬ (k : Int) < (ps.length : Int) := by omega
          obtain rfl : k = ps.length := by omega
          have hb0 : wr.cell? ⟨B, 0, none⟩ = some (.int .i64 x) := by simp [World.cell?, HS.out.1]
          have hb1 : wr.cell? ⟨B, 1, none⟩ = some (.int .i64 y) := by simp [World.cell?, HS.out.1]
          go_wp2_with fail
          go_quiet (fail)
          go_wp2
          (try simp only [Exit.inBlock, Exit.then])
          refine bodyPost_ret (results_list (rs := [.tmp 4, .tmp 5, .tmp 6, .tmp 7]) rfl (by simp) (.tmp (.tmp (.tmp (.tmp .nil))))) rfl ?_
          obtain ⟨ln, e1, e2⟩ := HS.out.2.1
          have e3 : (impl_left.pairs m).take ps.length = impl_left.pairs m := by rw [← H4.out.2.1, ← Tk.vals_len, List.take_length]
          rw [e3] at e2
          refine ⟨?_, ?_⟩
          · rw [EN.out, e2, e1]
            have e4 : decide (0 < (ln : Int)) = decide (0 < ln) := by rw [decide_eq_decide]; omega
            first | rfl | (rw [e4]; rfl) | (simp [rd])
          · exact pw_below_drewN (below_step (below_step (below_alloc (pw_below_drewN (Below.refl _ _) _) _) (below_step H5.out.2 H4.out.2.2)) HS.out.2.2) _
def impl_LongestTalk.f (n : Int) (who : ByteArray) : Option (Int × Int × Int × Bool) := some (if impl_CountNeverKnown.most n && Kn.who who then (rd (impl_LongestTalk.b n who).1 0, rd (impl_LongestTalk.b n who).1 1, ((impl_LongestTalk.b n who).2 : Int), decide (0 < ((impl_LongestTalk.b n who).2 : Int))) else (0, 0, 0, false))
theorem impl_LongestTalk.calls (n : Int) (who : ByteArray) (r1 r2 r3 : Int) (r4 : Bool) (w : World) (h : impl_LongestTalk.f n who = some (r1, r2, r3, r4)) :
    Calls Try.prog 39 #[.int .i64 n, .string who] w fun e w' => e = .returned (.tuple #[.int .i64 r1, .int .i64 r2, .int .i64 r3, .bool r4]) ∧ Below w.heap.size w w' := by
  unfold impl_LongestTalk.f at h
  have h := Option.some.inj h
  refine (impl_LongestTalk.has n who w).mono fun e w' he => ⟨he.1.trans ?_, he.2⟩
  split at h <;> (injection h with h1 h2; injection h2 with h2 h3; injection h3 with h3 h4; subst h1 h2 h3 h4; rename_i hc; simp [hc])

end Go.Proofs.Ytlkbphhmahipdaa.P
