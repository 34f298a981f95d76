/- Calls of the functions of the given program return what the plain Lean functions of the same names return; and a row of a law out of its pure statement. Written by a program of this session out of the translation; Lean checks it. No condition. -/
import Derived.Test.YtlkbphhmahipdaaPx0
import Derived.Test.YtlkbphhmahipdaaPxHimplqbehind
import Derived.Test.YtlkbphhmahipdaaPxHimplqPairsLeft
import Derived.Test.YtlkbphhmahipdaaNx
import Derived.Deep.RegionHeld3
import Derived.Test.YtlkbphhmahipdaaPx1
import Derived.Test.YtlkbphhmahipdaaPxHspecqtaSay
import Derived.Test.YtlkbphhmahipdaaPxHspecqtaLeft
import Derived.Test.YtlkbphhmahipdaaPxHimplqisTalk
import Derived.Test.YtlkbphhmahipdaaPxHimplqisTrue
import Derived.Test.YtlkbphhmahipdaaPx25
import Derived.Test.YtlkbphhmahipdaaPxHspecqPairsLeft
namespace Go.Proofs.Ytlkbphhmahipdaa.P
open Go.RowKit Go.Proofs.YtlkbphhmahipdaaW.PrintWords Go.Proofs.YtlkbphhmahipdaaW.PrintLast Go.Proofs.YtlkbphhmahipdaaW.PrintMore
attribute [local go_sem] max2_int min2_int max_two min_two max_three min_three max_four min_four   -- for this text's walks alone
set_option linter.unusedVariables false
set_option linter.unusedSimpArgs false

/-! ### impl_NextStatements: function 19, by hand -/
-- IMPORT Derived.Test.YtlkbphhmahipdaaNx
-- IMPORT Derived.Deep.RegionHeld3
set_option maxHeartbeats 4000000 in
set_option maxRecDepth 100000 in
theorem impl_NextStatements.has (n : Int) (talk : ByteArray) (hs : talk.size ≤ 1048576) (w : World) :
    Calls Try.prog 19 #[.int .i64 n, .string talk] w fun e w' => ∃ v : Value, e = .returned (.tuple #[v, .bool (impl_PairsLeft.ok n talk)]) ∧ Kd.R Kd.string 9 w' w.heap.size (fun _ => True) v (if impl_PairsLeft.ok n talk = true then Nx.next (impl_PairsLeft.rows n talk) 6 else []) ∧ Below w.heap.size w w' := by
  have TP : Aside0 (∀ W, Calls Try.prog 14 #[.int .i64 n, .string talk] W fun e w' => ∃ (A : Option Addr) (c : Nat) (ps : List Tk.PP), e = .returned (.tuple #[.slice A ps.length c, .bool (impl_PairsLeft.ok n talk)]) ∧ Aside0 (Tk.Has 36 3 w' W.heap.size W.heap.size (.slice A ps.length c) ps ∧ Tk.vals ps = impl_PairsLeft.rows n talk ∧ Tk.Ok ps ∧ Below W.heap.size W w')) := ⟨fun W => (impl_PairsLeft.has n talk hs W).mono fun e w' he => by
    obtain ⟨v, rfl, ps, h1, h2, h3, h4⟩ := he
    obtain ⟨A, c, rfl, _⟩ := h1.slice
    exact ⟨A, c, ps, rfl, ⟨h1, h2, h3, h4⟩⟩⟩
  clear hs
  cases hok : impl_PairsLeft.ok n talk with
  | false =>
    rw [hok] at TP
    rw [if_neg (show ¬ (false = true) by decide)]
    clear hok
    go_enter Try.func19, Try.ntmps19
    go_wp2_with (go_at_call 14; refine (TP.out _).mono ?_; rintro e w2 ⟨A, c, ps, rfl, h2⟩)
    go_ret2
    exact ⟨_, rfl, Kd.R_nil _ _ _ _ _, h2.out.2.2.2⟩
  | true =>
    rw [hok] at TP
    rw [if_pos rfl]
    clear hok
    have TB := Aside0.mk (fun (k : Nat) base lo u ps W (h1 : Tk.Has 36 3 W base lo u ps) (h2 : Tk.Ok ps) => impl_behind.all (Nx.sp k) (Nx.wt k) base lo u ps W h1 h2)
    generalize impl_PairsLeft.rows n talk = rows at TP ⊢
    go_enter Try.func19, Try.ntmps19
    go_wp2_with (first
      | (go_at_call 14; refine (TP.out _).mono ?_; rintro e w2 ⟨A, c, ps, rfl, h2⟩; clear TP)
      | ((with_reducible refine gate_dst (N := 19) rfl ?_); refine Kd.R_lit Kd.string w2.heap.size 9 ?hg (N := 19) ?hd (w0 := w2) (xs := ([] : List ByteArray)) (inner := []) (ok := fun _ => True) (okp := fun _ => True) ?hr ?hp (fun _ hk => hk) trivial (Below.refl _ _) (Nat.le_refl _) (by simp) ?_; (case hd => rfl); (case hg => rfl); (case hr => first | (go_simp; done) | (go_simp; rfl)); (case hp => exact (Reps.none _ _)); intro v3 w3 ho hb hg_ hnew_; have H3 := Aside0.mk (show _ ∧ _ from ⟨ho, hb⟩); clear ho hb hg_ hnew_))
    go_loopg [8, 22] 6 (fun gg s8 s22 wr => ∃ k : Nat, s22 = .int .i64 (k : Int) ∧ k ≤ 6 ∧ 6 - k ≤ gg ∧ Aside0 (Kd.R Kd.string 9 wr w2.heap.size (fun k => k ≠ w3.heap.size) s8 (Nx.next rows k) ∧ Below w2.heap.size w2 wr ∧ ∀ j, j < 6 → wr.cell? ⟨w3.heap.size, j, none⟩ = some (.string (Nx.stm j))))
    case atStart => exact ⟨0, rfl, by omega, by omega, ⟨Kd.R_alloc (Kd.R_mono (Kd.R_bound H3.out.1) (fun k hk => by have := hk.2.2.1; omega)) _, below_alloc H3.out.2 _, fun j hj => Nx.six_cells _ _ j hj⟩⟩
    case round =>
      obtain ⟨k, rfl, hk, hgg, HS⟩ := hrel
      by_cases hk6 : k < 6
      · have hkz : (k : Int) < 6 := by omega
        have hcell := HS.out.2.2 k hk6
        have HBH : Aside0 (∀ q, Calls Try.prog 78 #[.slice A ps.length c, .string (Tk.wh (Nx.sp k)), .int .u8 (Nx.wt k)] (wr.drewN q) fun e w' => ∃ A' c', e = .returned (.slice A' (Tk.say (Nx.sp k) (Nx.wt k) rows).length c') ∧ Aside0 (Below wr.heap.size wr w')) := ⟨fun q => (TB.out k _ _ _ _ (wr.drewN q) ((h2.out.1.below HS.out.2.1).below (pw_below_drewN (Below.refl _ _) q)) h2.out.2.2.1).mono fun e w' he => by
          obtain ⟨v', rfl, h5, h6⟩ := he
          obtain ⟨A', c', e5, _⟩ := h5.slice
          have hl : (impl_behind.sel (Nx.sp k) (Nx.wt k) ps).length = (Tk.say (Nx.sp k) (Nx.wt k) rows).length := by
            rw [← Tk.vals_len, impl_behind.sel_vals, h2.out.2.1]
          rw [hl] at e5
          exact ⟨A', c', by rw [e5], ⟨below_step (pw_below_drewN (Below.refl _ _) q) h6⟩⟩⟩
        obtain ⟨p1, p2, p3⟩ := Nx.parts k hk6
        have hlen := Nx.next_len rows k
        have HY := Aside0.mk (Nx.next_yes rows k)
        have HN := Aside0.mk (Nx.next_no rows k)
        generalize hL : (Tk.say (Nx.sp k) (Nx.wt k) rows).length = L at HBH HY HN
        rw [← p2, ← p3] at HBH
        generalize hst : Nx.stm k = st at hcell HBH HY p1
        have hsz : (st.size : Int) = 2 := by omega
        have hx1 : ∀ h : 1 < st.size, ((st[1]'h).toNat : Int) = bt st 1 := fun h => bt_at st 1 h
        have hx2 := bt_at st 1
        clear p1 p2 p3 hL hst
        by_cases hL0 : 0 < L
        · have hLz : (0 : Int) < (L : Int) := by omega
          have HL := Aside0.mk (HY.out hL0)
          clear HY HN hL0
          go_wp2
          go_region_held3 (fun _ => True) (trivial) (first | (go_at_call 78; refine (HBH.out _).mono ?_; rintro e w7 ⟨A7, c7, rfl, H7⟩))
          go_simp
          have H8 := Aside0.mk (show Kd.R Kd.string 9 w7 w2.heap.size (fun k => k ≠ w3.heap.size) u8 (Nx.next rows k) ∧ Below w2.heap.size w2 w7 ∧ (∀ j, j < 6 → w7.cell? ⟨w3.heap.size, j, none⟩ = some (.string (Nx.stm j))) from ⟨Kd.R_below HS.out.1 H7.out, below_step HS.out.2.1 H7.out, fun j hj => pw_cell_below H7.out (HS.out.2.2 j hj)⟩)
          generalize Nx.next rows k = xs at H8 HL hlen
          clear HS H7 hcell
          go_wp2_with (first
            | ((with_reducible refine gate_builtin (b := .append) (xs := #[.tmp 34, .tmp 36]) rfl ?_); at_builtin; refine Kd.R_append Kd.string (w0 := w2) w2.heap.size rfl (.tmp 34) (.tmp 36) 31 9 (.string ⟨#[]⟩) 16 rfl Try.underlying31 (by kernel_rfl) rfl (by decide) (by omega) u8 xs st [.string st] (fun k => k ≠ w3.heap.size) (fun _ => False) rfl (by first | (go_simp; done) | (go_simp; rfl)) rfl (fun _ hk => hk.elim) (fun k hk => by have := World.block_lt_of_cell? _ _ (H8.out.2.2 0 (by omega)); dsimp only at this; omega) H8.out.1 H8.out.2.1 H8.out.2.1.size (by omega) ?_; intro v9 w9 ho hb hg hat; have HO9 := Aside0.mk (show _ ∧ _ ∧ _ from ⟨ho, hb, hg⟩); clear ho hb hg hat))
          go_roundg (6 - (k + 1))
          case measure => omega
          case rel => exact ⟨k + 1, by go_num, by omega, by omega, ⟨by rw [HL.out]; exact HO9.out.1, HO9.out.2.1, fun j hj => Nx.cell_grown HO9.out.2.2 (H8.out.2.2 j hj) (fun e => H8.out.1.1 _ e.symm rfl)⟩⟩
        · have hLz : ¬ (0 : Int) < (L : Int) := by omega
          have HL := Aside0.mk (HN.out hL0)
          clear HY HN hL0
          go_wp2
          go_region_held3 (fun _ => True) (trivial) (first | (go_at_call 78; refine (HBH.out _).mono ?_; rintro e w7 ⟨A7, c7, rfl, H7⟩))
          go_simp
          go_wp2
          go_roundg (6 - (k + 1))
          case measure => omega
          case rel => exact ⟨k + 1, by go_num, by omega, by omega, ⟨by rw [HL.out]; exact Kd.R_below HS.out.1 H7.out, below_step HS.out.2.1 H7.out, fun j hj => pw_cell_below H7.out (HS.out.2.2 j hj)⟩⟩
      · obtain rfl : k = 6 := by omega
        go_wp2
        go_ret2
        exact ⟨_, rfl, Kd.R_mono (Kd.R_lower HS.out.1 h2.out.2.2.2.size) (fun _ _ => trivial), below_step h2.out.2.2.2 HS.out.2.1⟩
def impl_NextStatements.f (n : Int) (talk : ByteArray) : Option (List ByteArray × Bool) := if talk.size ≤ 1048576 then some ((if impl_PairsLeft.ok n talk = true then Nx.next (impl_PairsLeft.rows n talk) 6 else []), impl_PairsLeft.ok n talk) else none
theorem impl_NextStatements.calls (n : Int) (talk : ByteArray) (r1 : List ByteArray) (r2 : Bool) (w : World) (h : impl_NextStatements.f n talk = some (r1, r2)) :
    Calls Try.prog 19 #[.int .i64 n, .string talk] w fun e w' => ∃ v0_ : Value, e = .returned (.tuple #[v0_, .bool r2]) ∧ Kd.R Kd.string 9 w' w.heap.size (fun _ => True) v0_ r1 ∧ Below w.heap.size w w' := by
  have hc : talk.size ≤ 1048576 := by
    unfold impl_NextStatements.f at h
    split at h
    · assumption
    · cases h
  unfold impl_NextStatements.f at h
  rw [if_pos hc] at h
  obtain ⟨rfl, rfl⟩ := Prod.mk.inj (Option.some.inj h)
  exact impl_NextStatements.has n talk hc w

end Go.Proofs.Ytlkbphhmahipdaa.P
namespace Go.Proofs.Ytlkbphhmahipdaa.P
open Go.RowKit Go.Proofs.YtlkbphhmahipdaaW.PrintWords Go.Proofs.YtlkbphhmahipdaaW.PrintLast Go.Proofs.YtlkbphhmahipdaaW.PrintMore
attribute [local go_sem] max2_int min2_int max_two min_two max_three min_three max_four min_four   -- for this text's walks alone
set_option linter.unusedVariables false
set_option linter.unusedSimpArgs false

/-! ### spec_NextStatements: function 18, by hand -/
-- IMPORT Derived.Test.YtlkbphhmahipdaaNx
-- IMPORT Derived.Deep.RegionHeld3
set_option maxHeartbeats 4000000 in
set_option maxRecDepth 100000 in
theorem spec_NextStatements.has (n : Int) (talk : ByteArray) (k : Nat) (hk : spec_taTalk.f k talk = some (impl_isTalk.ok talk)) (w : World) :
    Calls Try.prog 18 #[.int .i64 n, .string talk] w fun e w' => ∃ v : Value, e = .returned (.tuple #[v, .bool (impl_PairsLeft.ok n talk)]) ∧ Kd.R Kd.string 9 w' w.heap.size (fun _ => True) v (if impl_PairsLeft.ok n talk = true then Nx.next (impl_PairsLeft.rows n talk) 6 else []) ∧ Below w.heap.size w w' := by
  have TB0 : Aside0 (∀ W, Calls Try.prog 72 #[.int .i64 n, .string talk] W fun e w' => e = .returned (.bool (impl_PairsLeft.ok n talk)) ∧ Aside0 (Below W.heap.size W w')) := ⟨fun W => (spec_taBoth.calls k n talk _ W (spec_taBoth.told n talk k hk)).mono fun e w' h => ⟨h.1, ⟨h.2.below⟩⟩⟩
  clear hk
  cases hok : impl_PairsLeft.ok n talk with
  | false =>
    rw [hok] at TB0
    rw [if_neg (show ¬ (false = true) by decide)]
    clear hok
    go_enter Try.func18, Try.ntmps18
    go_wp2_with (go_at_call 72; refine (TB0.out _).mono ?_; rintro e w2 ⟨rfl, h2⟩)
    go_ret2
    exact ⟨_, rfl, Kd.R_nil _ _ _ _ _, h2.out⟩
  | true =>
    have hc : (2 ≤ n ∧ n ≤ 40) ∧ impl_isTalk.ok talk = true := by simpa [impl_PairsLeft.ok] using hok
    obtain ⟨h1, h2, h3, h4⟩ := impl_isTrue.parts talk hc.2
    have e0 : impl_PairsLeft.rows n talk = impl_isTrue.lft n talk := by unfold impl_PairsLeft.rows; rw [if_pos hok]
    have TL : Aside0 (∀ W, Calls Try.prog 73 #[.int .i64 n, .string talk] W fun e w' => ∃ (A : Option Addr) (c : Nat) (ps : List Tk.PP), e = .returned (.slice A ps.length c) ∧ Aside0 (Tk.Has 36 3 w' W.heap.size W.heap.size (.slice A ps.length c) ps ∧ Tk.vals ps = impl_PairsLeft.rows n talk ∧ Tk.Ok ps ∧ Below W.heap.size W w')) := ⟨fun W => by
      obtain ⟨m, rfl⟩ := Int.eq_ofNat_of_zero_le (show 0 ≤ n by omega)
      exact (spec_taLeft.has m (by omega) talk (talk.size / 2) (by omega) h1 _ _ h3 h4 W).mono fun e w' he => by
        obtain ⟨v, rfl, ps, h1, h2, h3, h4⟩ := he
        obtain ⟨A, c, rfl, _⟩ := h1.slice
        exact ⟨A, c, ps, rfl, ⟨h1, by rw [e0]; exact h2, h3, h4⟩⟩⟩
    rw [hok] at TB0
    rw [if_pos rfl]
    clear hok hc h1 h2 h3 h4 e0
    have TB := Aside0.mk (fun (k : Nat) base lo u ps W (h1 : Tk.Has 36 3 W base lo u ps) (h2 : Tk.Ok ps) => spec_taSay.has (Nx.sp k) (Nx.wt k) (Nx.wt_in k) base lo u ps W h1 h2)
    generalize impl_PairsLeft.rows n talk = rows at TL ⊢
    go_enter Try.func18, Try.ntmps18
    go_wp2_with (first
      | (go_at_call 72; refine (TB0.out _).mono ?_; rintro e w1 ⟨rfl, h1⟩; clear TB0)
      | (go_at_call 73; refine (TL.out _).mono ?_; rintro e w2 ⟨A, c, ps, rfl, h2_⟩; have h2 := Aside0.mk (show _ ∧ _ ∧ _ ∧ Below w.heap.size w w2 from ⟨h2_.out.1, h2_.out.2.1, h2_.out.2.2.1, below_step h1.out h2_.out.2.2.2⟩); clear TL h2_ h1))
    go_loopg [7, 19] 6 (fun gg s7 s19 wr => ∃ k : Nat, s19 = .int .i64 (k : Int) ∧ k ≤ 6 ∧ 6 - k ≤ gg ∧ Aside0 (Kd.R Kd.string 9 wr w2.heap.size (fun k => k ≠ w2.heap.size) s7 (Nx.next rows k) ∧ Below w2.heap.size w2 wr ∧ ∀ j, j < 6 → wr.cell? ⟨w2.heap.size, j, none⟩ = some (.string (Nx.stm j))))
    case atStart => exact ⟨0, rfl, by omega, by omega, ⟨Kd.R_nil _ _ _ _ _, below_alloc (Below.refl _ _) _, fun j hj => Nx.six_cells _ _ j hj⟩⟩
    case round =>
      obtain ⟨k, rfl, hk, hgg, HS⟩ := hrel
      by_cases hk6 : k < 6
      · have hkz : (k : Int) < 6 := by omega
        have hcell := HS.out.2.2 k hk6
        have HBH : Aside0 (∀ q, Calls Try.prog 77 #[.slice A ps.length c, .string (Tk.wh (Nx.sp k)), .int .u8 (Nx.wt k)] (wr.drewN q) fun e w' => ∃ A' c', e = .returned (.slice A' (Tk.say (Nx.sp k) (Nx.wt k) rows).length c') ∧ Aside0 (Below wr.heap.size wr w')) := ⟨fun q => (TB.out k _ _ _ _ (wr.drewN q) ((h2.out.1.below HS.out.2.1).below (pw_below_drewN (Below.refl _ _) q)) h2.out.2.2.1).mono fun e w' he => by
          obtain ⟨v', rfl, h5, h6⟩ := he
          obtain ⟨A', c', e5, _⟩ := h5.slice
          have hl : (impl_behind.sel (Nx.sp k) (Nx.wt k) ps).length = (Tk.say (Nx.sp k) (Nx.wt k) rows).length := by
            rw [← Tk.vals_len, impl_behind.sel_vals, h2.out.2.1]
          rw [hl] at e5
          exact ⟨A', c', by rw [e5], ⟨below_step (pw_below_drewN (Below.refl _ _) q) h6⟩⟩⟩
        obtain ⟨p1, p2, p3⟩ := Nx.parts k hk6
        have hlen := Nx.next_len rows k
        have HY := Aside0.mk (Nx.next_yes rows k)
        have HN := Aside0.mk (Nx.next_no rows k)
        generalize hL : (Tk.say (Nx.sp k) (Nx.wt k) rows).length = L at HBH HY HN
        rw [← p2, ← p3] at HBH
        generalize hst : Nx.stm k = st at hcell HBH HY p1
        have hsz : (st.size : Int) = 2 := by omega
        have hx1 : ∀ h : 1 < st.size, ((st[1]'h).toNat : Int) = bt st 1 := fun h => bt_at st 1 h
        have hx2 := bt_at st 1
        clear p1 p2 p3 hL hst
        by_cases hL0 : 0 < L
        · have hLz : (0 : Int) < (L : Int) := by omega
          have HL := Aside0.mk (HY.out hL0)
          clear HY HN hL0
          go_wp2
          go_region_held3 (fun _ => True) (trivial) (first | (go_at_call 77; refine (HBH.out _).mono ?_; rintro e w7 ⟨A7, c7, rfl, H7⟩))
          go_simp
          have H8 := Aside0.mk (show Kd.R Kd.string 9 w7 w2.heap.size (fun k => k ≠ w2.heap.size) u7 (Nx.next rows k) ∧ Below w2.heap.size w2 w7 ∧ (∀ j, j < 6 → w7.cell? ⟨w2.heap.size, j, none⟩ = some (.string (Nx.stm j))) from ⟨Kd.R_below HS.out.1 H7.out, below_step HS.out.2.1 H7.out, fun j hj => pw_cell_below H7.out (HS.out.2.2 j hj)⟩)
          generalize Nx.next rows k = xs at H8 HL hlen
          clear HS H7 hcell
          go_wp2_with (first
            | ((with_reducible refine gate_builtin (b := .append) (xs := #[.tmp 31, .tmp 33]) rfl ?_); at_builtin; refine Kd.R_append Kd.string (w0 := w2) w2.heap.size rfl (.tmp 31) (.tmp 33) 31 9 (.string ⟨#[]⟩) 16 rfl Try.underlying31 (by kernel_rfl) rfl (by decide) (by omega) u7 xs st [.string st] (fun k => k ≠ w2.heap.size) (fun _ => False) rfl (by first | (go_simp; done) | (go_simp; rfl)) rfl (fun _ hk => hk.elim) (fun k hk => by have := World.block_lt_of_cell? _ _ (H8.out.2.2 0 (by omega)); dsimp only at this; omega) H8.out.1 H8.out.2.1 H8.out.2.1.size (by omega) ?_; intro v9 w9 ho hb hg hat; have HO9 := Aside0.mk (show _ ∧ _ ∧ _ from ⟨ho, hb, hg⟩); clear ho hb hg hat))
          go_roundg (6 - (k + 1))
          case measure => omega
          case rel => exact ⟨k + 1, by go_num, by omega, by omega, ⟨by rw [HL.out]; exact HO9.out.1, HO9.out.2.1, fun j hj => Nx.cell_grown HO9.out.2.2 (H8.out.2.2 j hj) (fun e => H8.out.1.1 _ e.symm rfl)⟩⟩
        · have hLz : ¬ (0 : Int) < (L : Int) := by omega
          have HL := Aside0.mk (HN.out hL0)
          clear HY HN hL0
          go_wp2
          go_region_held3 (fun _ => True) (trivial) (first | (go_at_call 77; refine (HBH.out _).mono ?_; rintro e w7 ⟨A7, c7, rfl, H7⟩))
          go_simp
          go_wp2
          go_roundg (6 - (k + 1))
          case measure => omega
          case rel => exact ⟨k + 1, by go_num, by omega, by omega, ⟨by rw [HL.out]; exact Kd.R_below HS.out.1 H7.out, below_step HS.out.2.1 H7.out, fun j hj => pw_cell_below H7.out (HS.out.2.2 j hj)⟩⟩
      · obtain rfl : k = 6 := by omega
        go_wp2
        go_ret2
        exact ⟨_, rfl, Kd.R_mono (Kd.R_lower HS.out.1 h2.out.2.2.2.size) (fun _ _ => trivial), below_step h2.out.2.2.2 HS.out.2.1⟩
def spec_NextStatements.f (k : Nat) (n : Int) (talk : ByteArray) : Option (List ByteArray × Bool) := if spec_taTalk.f k talk = some (impl_isTalk.ok talk) then some ((if impl_PairsLeft.ok n talk = true then Nx.next (impl_PairsLeft.rows n talk) 6 else []), impl_PairsLeft.ok n talk) else none
theorem spec_NextStatements.mono (n : Int) (talk : ByteArray) (k : Nat) : LeO (spec_NextStatements.f k n talk) (spec_NextStatements.f (k + 1) n talk) := by
  intro r h
  unfold spec_NextStatements.f at h ⊢
  by_cases hk : spec_taTalk.f k talk = some (impl_isTalk.ok talk)
  · rw [if_pos (spec_taTalk.mono talk k _ hk)]
    rw [if_pos hk] at h
    exact h
  · rw [if_neg hk] at h
    cases h
theorem spec_NextStatements.calls (k : Nat) (n : Int) (talk : ByteArray) (r1 : List ByteArray) (r2 : Bool) (w : World) (h : spec_NextStatements.f k n talk = some (r1, r2)) :
    Calls Try.prog 18 #[.int .i64 n, .string talk] w fun e w' => ∃ v0_ : Value, e = .returned (.tuple #[v0_, .bool r2]) ∧ Kd.R Kd.string 9 w' w.heap.size (fun _ => True) v0_ r1 ∧ Below w.heap.size w w' := by
  have hk : spec_taTalk.f k talk = some (impl_isTalk.ok talk) := by
    unfold spec_NextStatements.f at h
    split at h
    · assumption
    · cases h
  unfold spec_NextStatements.f at h
  rw [if_pos hk] at h
  obtain ⟨rfl, rfl⟩ := Prod.mk.inj (Option.some.inj h)
  exact spec_NextStatements.has n talk k hk w

end Go.Proofs.Ytlkbphhmahipdaa.P
