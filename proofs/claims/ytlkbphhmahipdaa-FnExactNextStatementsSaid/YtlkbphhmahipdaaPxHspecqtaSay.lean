/- Calls of the functions of the given program return what the plain Lean functions of the same names return; and a row of a law out of its pure statement. Written by a program of this session out of the translation; Lean checks it. No condition. -/
import Derived.Test.YtlkbphhmahipdaaPx0
import Derived.Test.YtlkbphhmahipdaaPx1
import Derived.Test.YtlkbphhmahipdaaPxHimplqbehind
import Derived.Test.YtlkbphhmahipdaaTk
import Derived.BigQuiet
namespace Go.Proofs.Ytlkbphhmahipdaa.P
open Go.RowKit Go.Proofs.YtlkbphhmahipdaaW.PrintWords Go.Proofs.YtlkbphhmahipdaaW.PrintLast Go.Proofs.YtlkbphhmahipdaaW.PrintMore
attribute [local go_sem] max2_int min2_int max_two min_two max_three min_three max_four min_four   -- for this text's walks alone
set_option linter.unusedVariables false
set_option linter.unusedSimpArgs false

/-! ### spec_taSay: function 77, by hand -/
-- IMPORT Derived.Test.YtlkbphhmahipdaaTk
-- IMPORT Derived.BigQuiet
theorem spec_taTold.told (s : Bool) (p : Tk.PP) (h : (1 ≤ p.2.1 ∧ p.2.1 ≤ 40) ∧ (1 ≤ p.2.2 ∧ p.2.2 ≤ 40)) : spec_taTold.f (Tk.wh s) (Tk.vl p) = some (Tk.tv s (Tk.vl p)) := by
  have hb := Tk.tv_bd s p h
  cases s with
  | true =>
    have e : wrap64 (rd (Tk.vl p) 0 + rd (Tk.vl p) 1) = rd (Tk.vl p) 0 + rd (Tk.vl p) 1 := by simp [Tk.tv] at hb; unfold wrap64; omega
    simp [spec_taTold.f, Tk.vl, Tk.wh, Tk.tv] at e ⊢
    exact e
  | false =>
    have e : wrap64 (rd (Tk.vl p) 0 * rd (Tk.vl p) 1) = rd (Tk.vl p) 0 * rd (Tk.vl p) 1 := by simp [Tk.tv] at hb; unfold wrap64; omega
    simp [spec_taTold.f, Tk.vl, Tk.wh, Tk.tv] at e ⊢
    exact e
/-- How many of some have each number. -/
def spec_taCounts.cn (N : Nat) (s : Bool) (xs : List (List Int)) : List Int := (List.range N).map fun v : Nat => (Tk.cnt s xs (v : Int) : Int)
theorem spec_taCounts.cn_len (N : Nat) (s : Bool) (xs : List (List Int)) : (spec_taCounts.cn N s xs).length = N := by simp [spec_taCounts.cn]
theorem spec_taCounts.cn_at (N : Nat) (s : Bool) (xs : List (List Int)) (v : Int) (h : 0 ≤ v ∧ v < (N : Int)) : rd (spec_taCounts.cn N s xs) v = (Tk.cnt s xs v : Int) := by
  obtain ⟨n, rfl⟩ := Int.eq_ofNat_of_zero_le h.1
  have : n < N := by omega
  simp [rd, spec_taCounts.cn, List.getD_eq_getElem?_getD, this]
theorem spec_taCounts.cn_set (N : Nat) (s : Bool) (xs : List (List Int)) (x : List Int) (h : 0 ≤ Tk.tv s x ∧ Tk.tv s x < (N : Int)) : (spec_taCounts.cn N s xs).set (Tk.tv s x).toNat ((Tk.cnt s xs (Tk.tv s x) : Int) + 1) = spec_taCounts.cn N s (xs ++ [x]) := by
  apply List.ext_getElem?
  intro i
  rw [List.getElem?_set]
  by_cases e : (Tk.tv s x).toNat = i
  · rw [if_pos e, if_pos (by rw [spec_taCounts.cn_len]; omega)]
    have h1 : (i : Int) = Tk.tv s x := by omega
    have h2 : i < N := by omega
    simp [spec_taCounts.cn, h2, Tk.cnt, List.countP_append, h1]
  · rw [if_neg e]
    have h1 : ¬ Tk.tv s x = (i : Int) := by omega
    by_cases h2 : i < N
    · simp [spec_taCounts.cn, h2, Tk.cnt, List.countP_append, h1]
    · simp [spec_taCounts.cn, h2]
theorem spec_taCounts.cn_zero (N : Nat) (s : Bool) : List.replicate N (0 : Int) = spec_taCounts.cn N s [] := by
  apply List.ext_getElem?
  intro i
  by_cases h : i < N
  · simp [spec_taCounts.cn, h, Tk.cnt]
  · simp [spec_taCounts.cn, h]
def spec_taCounts.cl (s : Bool) (xs : List (List Int)) : List Int := spec_taCounts.cn 1601 s xs
theorem spec_taCounts.cl_len (s : Bool) (xs : List (List Int)) : (spec_taCounts.cl s xs).length = 1601 := spec_taCounts.cn_len 1601 s xs
theorem spec_taCounts.cl_at (s : Bool) (xs : List (List Int)) (v : Int) (h : 0 ≤ v ∧ v < 1601) : rd (spec_taCounts.cl s xs) v = (Tk.cnt s xs v : Int) := spec_taCounts.cn_at 1601 s xs v h
theorem spec_taCounts.cl_set (s : Bool) (xs : List (List Int)) (x : List Int) (h : 0 ≤ Tk.tv s x ∧ Tk.tv s x < 1601) : (spec_taCounts.cl s xs).set (Tk.tv s x).toNat ((Tk.cnt s xs (Tk.tv s x) : Int) + 1) = spec_taCounts.cl s (xs ++ [x]) := spec_taCounts.cn_set 1601 s xs x h
theorem spec_taCounts.l0_told (s : Bool) (ps : List Tk.PP) (hok : Tk.Ok ps) (c : Nat → List Int) (hlen : ∀ i, (c i).length = 1601)
    (hst : ∀ i, (hi : i < ps.length) → (0 ≤ rd (c i) (Tk.tv s (Tk.vl ps[i])) ∧ rd (c i) (Tk.tv s (Tk.vl ps[i])) ≤ 2000) ∧ (c i).set (Tk.tv s (Tk.vl ps[i])).toNat (rd (c i) (Tk.tv s (Tk.vl ps[i])) + 1) = c (i + 1)) (d : Nat) : ∀ i, i ≤ ps.length → ps.length - i ≤ d → spec_taCounts.l0 (d + 1) (Tk.wh s) (c i) (Tk.vals ps) (ps.length : Int) (i : Int) = some (c ps.length) := by
  have hl := Tk.vals_len ps
  have hn := hok.1
  induction d with
  | zero =>
    intro i h1 h2
    obtain rfl : i = ps.length := by omega
    rw [spec_taCounts.l0, if_neg (by omega)]
  | succ d ih =>
    intro i h1 h2
    by_cases hi : i < ps.length
    · have hbd := hok.2 ps[i] (List.getElem_mem hi)
      have htv := Tk.tv_bd s ps[i] hbd
      have hg : (Tk.vals ps).getD (i : Int).toNat [] = Tk.vl ps[i] := by simp [Tk.vals, List.getD_eq_getElem?_getD, hi]
      have htd : spec_taTold.f (Tk.wh s) ((Tk.vals ps).getD (i : Int).toNat []) = some (Tk.tv s (Tk.vl ps[i])) := by rw [hg]; exact spec_taTold.told s ps[i] hbd
      obtain ⟨hr, hs⟩ := hst i hi
      have e1 : wrap64 ((i : Int) + 1) = ((i + 1 : Nat) : Int) := by unfold wrap64; omega
      have e2 : wrap64 (rd (c i) (Tk.tv s (Tk.vl ps[i])) + 1) = rd (c i) (Tk.tv s (Tk.vl ps[i])) + 1 := by unfold wrap64; omega
      have hlc := hlen i
      rw [spec_taCounts.l0, if_pos (by omega), if_pos (by omega), if_pos (by omega)]
      refine Option.bind_eq_some_iff.2 ⟨Tk.tv s (Tk.vl ps[i]), htd, ?_⟩
      rw [if_pos (by omega), if_pos (by omega), e1, e2, hs]
      exact ih (i + 1) (by omega) (by omega)
    · obtain rfl : i = ps.length := by omega
      rw [spec_taCounts.l0, if_neg (by omega)]
theorem spec_taCounts.told (s : Bool) (ps : List Tk.PP) (hok : Tk.Ok ps) : spec_taCounts.f (ps.length + 1) (Tk.vals ps) (Tk.wh s) = some (spec_taCounts.cl s (Tk.vals ps)) := by
  have hn := hok.1
  have key := spec_taCounts.l0_told s ps hok (fun i => spec_taCounts.cl s (Tk.vals (ps.take i))) (fun i => spec_taCounts.cl_len _ _) (fun i hi => by
    have htv := Tk.tv_bd s ps[i] (hok.2 ps[i] (List.getElem_mem hi))
    have hc := Tk.cnt_le s (Tk.vals (ps.take i)) (Tk.tv s (Tk.vl ps[i]))
    rw [Tk.vals_len, List.length_take] at hc
    have ht : Tk.vals (ps.take (i + 1)) = Tk.vals (ps.take i) ++ [Tk.vl ps[i]] := by unfold Tk.vals; rw [List.take_succ_eq_append_getElem hi, List.map_append]; rfl
    have ha := spec_taCounts.cl_at s (Tk.vals (ps.take i)) (Tk.tv s (Tk.vl ps[i])) (by omega)
    have hs := spec_taCounts.cl_set s (Tk.vals (ps.take i)) (Tk.vl ps[i]) (by omega)
    rw [ha, ht]
    exact ⟨by omega, hs⟩) ps.length 0 (Nat.zero_le _) (Nat.le_refl _)
  rw [List.take_length, List.take_zero] at key
  have hz : spec_taCounts.cl s (Tk.vals []) = List.replicate 1601 0 := (spec_taCounts.cn_zero 1601 s).symm
  rw [hz] at key
  unfold spec_taCounts.f
  rw [if_pos (by omega), Tk.vals_len]
  exact key
/-- For each number whether it is told where the other one might know. -/
def spec_taSay.tb (N : Nat) (s : Bool) (all xs : List (List Int)) : List Bool := (List.range N).map fun v : Nat => Tk.might s all xs (v : Int)
theorem spec_taSay.tb_len (N : Nat) (s : Bool) (all xs : List (List Int)) : (spec_taSay.tb N s all xs).length = N := by simp [spec_taSay.tb]
theorem spec_taSay.tb_at (N : Nat) (s : Bool) (all xs : List (List Int)) (v : Int) (h : 0 ≤ v ∧ v < (N : Int)) : rdOf false (spec_taSay.tb N s all xs) v = Tk.might s all xs v := by
  obtain ⟨n, rfl⟩ := Int.eq_ofNat_of_zero_le h.1
  have : n < N := by omega
  simp [rdOf, spec_taSay.tb, List.getD_eq_getElem?_getD, this]
theorem spec_taSay.tb_zero (N : Nat) (s : Bool) (all : List (List Int)) : List.replicate N false = spec_taSay.tb N s all [] := by
  apply List.ext_getElem?
  intro i
  by_cases h : i < N
  · simp [spec_taSay.tb, h, Tk.might]
  · simp [spec_taSay.tb, h]
theorem spec_taSay.might_app (s : Bool) (all xs : List (List Int)) (x : List Int) (v : Int) : Tk.might s all (xs ++ [x]) v = (Tk.might s all xs v || (decide (Tk.cnt (!s) all (Tk.tv (!s) x) = 1) && decide (Tk.tv s x = v))) := by simp [Tk.might]
theorem spec_taSay.tb_set (N : Nat) (s : Bool) (all xs : List (List Int)) (x : List Int) (h : 0 ≤ Tk.tv s x ∧ Tk.tv s x < (N : Int)) (h1 : Tk.cnt (!s) all (Tk.tv (!s) x) = 1) : (spec_taSay.tb N s all xs).set (Tk.tv s x).toNat true = spec_taSay.tb N s all (xs ++ [x]) := by
  apply List.ext_getElem?
  intro i
  rw [List.getElem?_set]
  by_cases e : (Tk.tv s x).toNat = i
  · rw [if_pos e, if_pos (by rw [spec_taSay.tb_len]; omega)]
    have h3 : Tk.tv s x = (i : Int) := by omega
    have h2 : i < N := by omega
    simp [spec_taSay.tb, h2, spec_taSay.might_app, h1, h3]
  · rw [if_neg e]
    have h3 : ¬ Tk.tv s x = (i : Int) := by omega
    by_cases h2 : i < N
    · simp [spec_taSay.tb, h2, spec_taSay.might_app, h3]
    · simp [spec_taSay.tb, h2]
theorem spec_taSay.tb_same (N : Nat) (s : Bool) (all xs : List (List Int)) (x : List Int) (h1 : Tk.cnt (!s) all (Tk.tv (!s) x) ≠ 1) : spec_taSay.tb N s all xs = spec_taSay.tb N s all (xs ++ [x]) := by
  unfold spec_taSay.tb
  apply List.map_congr_left
  intro v _
  rw [spec_taSay.might_app]
  simp [h1]
theorem spec_taSay.cnt_pos (s : Bool) (ps : List Tk.PP) (p : Tk.PP) (hp : p ∈ ps) : 1 ≤ Tk.cnt s (Tk.vals ps) (Tk.tv s (Tk.vl p)) := by
  unfold Tk.cnt
  refine List.countP_pos_iff.2 ⟨Tk.vl p, List.mem_map_of_mem hp, by simp⟩
set_option maxHeartbeats 8000000 in
set_option maxRecDepth 100000 in
theorem spec_taSay.has (s : Bool) (what : Int) (hw : what = 45 ∨ what = 43 ∨ what = 33) (base lo : Nat) (v : Value) (ps : List Tk.PP) (w : World) (hH : Tk.Has 36 3 w base lo v ps) (hok : Tk.Ok ps) :
    Calls Try.prog 77 #[v, .string (Tk.wh s), .int .u8 what] w fun e w' => ∃ v', e = .returned v' ∧ Tk.Has 36 3 w' w.heap.size lo v' (impl_behind.sel s what ps) ∧ Below w.heap.size w w' := by
  obtain ⟨A, c, rfl, hc, hmax⟩ := hH.slice
  have hn := hok.1
  have T109 : Aside0 (∀ s' W, Below w.heap.size w W → Calls Try.prog 109 #[.slice A ps.length c, .string (Tk.wh s')] W fun e w' => ∃ A' c', e = .returned (.slice A' 1601 c') ∧ Aside0 (Kd.C (Kd.int .i64) w' A' 1601 (spec_taCounts.cl s' (Tk.vals ps)) ∧ Below W.heap.size W w')) := ⟨fun s' W hW => by
    have h1 := spec_taCounts.calls (ps.length + 1) A c (Tk.vals ps) (Tk.wh s') _ W (hH.below hW).C (by rw [Tk.vals_len]; exact hc) (spec_taCounts.told s' ps hok)
    rw [Tk.vals_len] at h1
    refine h1.mono fun e w' he => ?_
    obtain ⟨u, rfl, hR, hb⟩ := he
    obtain ⟨A', c', rfl, _, hC⟩ := Kd.R_reads hR
    rw [spec_taCounts.cl_len] at hC ⊢
    exact ⟨A', c', rfl, ⟨hC, hb⟩⟩⟩
  have T103 : Aside0 (∀ (s' : Bool) (p : Tk.PP) W, p ∈ ps → Tk.Inn 3 W lo ps → Calls Try.prog 103 #[.string (Tk.wh s'), .slice (some ⟨p.1, 0, none⟩) 2 2] W fun e w' => e = .returned (.int .i64 (Tk.tv s' (Tk.vl p))) ∧ ∃ j, w' = W.drewN j) := ⟨fun s' p W hp hI => by
    have := spec_taTold.calls (Tk.wh s') (some ⟨p.1, 0, none⟩) 2 (Tk.vl p) (Tk.tv s' (Tk.vl p)) W (hI.C p hp) (by simp [Tk.vl]) (spec_taTold.told s' p (hok.2 p hp))
    have hl2 : (Tk.vl p).length = 2 := rfl
    rw [hl2] at this
    exact this.mono fun e w' h => ⟨h.1, h.2.out⟩⟩
  have HH := Aside0.mk hH
  have HO := Aside0.mk hok
  clear hH hok
  have T109s := Aside0.mk (T109.out s)
  have T109o := Aside0.mk (T109.out (!s))
  clear T109
  cases s with
  | true =>
    rw [show Tk.wh true = ⟨#[115]⟩ from rfl] at T109s ⊢
    rw [show Tk.wh (!true) = ⟨#[112]⟩ from rfl] at T109o
    go_enter Try.func77, Try.ntmps77
    go_wp2_with (first
      | (go_at_call 109; refine (T109s.out _ (Below.refl _ _)).mono ?_; rintro e w3 ⟨A8, c8, rfl, r3⟩; clear T109s)
      | (go_at_call 109; refine (T109o.out _ r3.out.2).mono ?_; rintro e w4 ⟨A9, c9, rfl, r4⟩; clear T109o)
      | (at_make; refine Kd.R_make Kd.bool (w0 := w4) _ 4 rfl (N := 27) rfl 99 _ _ rfl 1601 rfl rfl Try.underlying99 (.bool false) 1 (by kernel_rfl) rfl (by decide) (by omega) false (ok := fun _ => True) (okp := fun _ => True) rfl (fun _ hk => hk) trivial (by omega) (by omega) (Below.refl _ _) (Nat.le_refl _) ?_; intro v5 w5 ho5 hb5 hg5 hn5; have R5 := Aside0.mk (show _ ∧ _ from ⟨ho5, hb5⟩); clear ho5 hb5 hg5 hn5))
    obtain ⟨g, cap, e5, hg1, hg2, _⟩ := Kd.R_form R5.out.1 (by simp)
    rw [List.length_replicate] at e5
    subst e5
    obtain ⟨ad8, rfl, _⟩ := Kd.at_int r3.out.1 0 (by omega) (by omega)
    obtain ⟨ad9, rfl, _⟩ := Kd.at_int r4.out.1 0 (by omega) (by omega)
    have hb4 : Below w.heap.size w w4 := below_step r3.out.2 r4.out.2
    have HB4 := Aside0.mk hb4
    have CO : Aside0 (∀ W x, Below w4.heap.size w4 W → 0 ≤ x → x < 1601 → W.cell? (ad9.add x.toNat) = some (.int .i64 (Tk.cnt (!true) (Tk.vals ps) x : Int)) ∧ W.cell? (ad8.add x.toNat) = some (.int .i64 (Tk.cnt true (Tk.vals ps) x : Int))) := ⟨fun W x hW h0 h1 => by
      obtain ⟨a9, e9, h9⟩ := Kd.at_int r4.out.1 x h0 h1
      obtain ⟨a8, e8, h8⟩ := Kd.at_int r3.out.1 x h0 h1
      injection e9 with e9
      injection e8 with e8
      subst e9 e8
      rw [spec_taCounts.cl_at _ _ _ ⟨h0, h1⟩] at h9 h8
      exact ⟨pw_cell_below hW h9, pw_cell_below hW (pw_cell_below r4.out.2 h8)⟩⟩
    have HS0 := Aside0.mk (show Kd.R Kd.bool 4 w5 w4.heap.size (fun _ => True) (.slice (some ⟨g, 0, none⟩) 1601 cap) (spec_taSay.tb 1601 true (Tk.vals ps) (Tk.vals (ps.take 0))) ∧ Below w4.heap.size w4 w5 from ⟨by
      have := R5.out.1
      rw [spec_taSay.tb_zero (1601 : Int).toNat true (Tk.vals ps)] at this
      exact this, R5.out.2⟩)
    clear hb4 hg1 hg2 R5 r3 r4
    go_loopg [30] ps.length (fun gg s30 wr => ∃ k : Nat, s30 = .int .i64 (k : Int) ∧ k ≤ ps.length ∧ ps.length - k ≤ gg ∧ Aside0 (Kd.R Kd.bool 4 wr w4.heap.size (fun _ => True) (.slice (some ⟨g, 0, none⟩) 1601 cap) (spec_taSay.tb 1601 true (Tk.vals ps) (Tk.vals (ps.take k))) ∧ Below w4.heap.size w4 wr))
    case atStart => exact ⟨0, rfl, Nat.zero_le _, by omega, HS0⟩
    case round =>
      obtain ⟨k, rfl, hk, hgg, HS⟩ := hrel
      clear HS0
      by_cases hi : k < ps.length
      · have hkz : (k : Int) < (ps.length : Int) := by omega
        have hww := below_then HB4.out HB4.out.size HS.out.2
        have hH := HH.out.below hww
        obtain ⟨g0, cap0, ev, hcell⟩ := hH.at_ k hi
        obtain ⟨rfl, rfl⟩ : A = some ⟨g0, 0, none⟩ ∧ c = cap0 := by injection ev with e1 e2 e3; exact ⟨e1, e3⟩
        have hpm : ps[k] ∈ ps := List.getElem_mem hi
        have hbdo := Tk.tv_bd (!true) ps[k] (HO.out.2 _ hpm)
        have hbds := Tk.tv_bd true ps[k] (HO.out.2 _ hpm)
        have hco := (CO.out wr (Tk.tv (!true) (Tk.vl ps[k])) HS.out.2 (by omega) (by omega)).1
        obtain ⟨hm1, hm2⟩ := Kd.R_celln false HS.out.1 (Tk.tv true (Tk.vl ps[k])) (by omega) (by omega)
        have hput := Kd.R_putg HS.out.1 (Tk.tv true (Tk.vl ps[k])) true
        have ht : Tk.vals (ps.take (k + 1)) = Tk.vals (ps.take k) ++ [Tk.vl ps[k]] := by unfold Tk.vals; rw [List.take_succ_eq_append_getElem hi, List.map_append]; rfl
        have HC1 := Aside0.mk (T103.out (!true) ps[k] wr hpm hH.inn)
        have HC2 := Aside0.mk (fun j => T103.out true ps[k] (wr.drewN j) hpm (hH.inn.below (pw_below_drewN (Below.refl _ _) j)))
        have hx0 : 0 ≤ Tk.tv (!true) (Tk.vl ps[k]) := by omega
        have hx1 : Tk.tv (!true) (Tk.vl ps[k]) < 1601 := by omega
        have hy0 : 0 ≤ Tk.tv true (Tk.vl ps[k]) := by omega
        have hy1 : Tk.tv true (Tk.vl ps[k]) < 1601 := by omega
        have HNX := Aside0.mk (show (Tk.cnt (!true) (Tk.vals ps) (Tk.tv (!true) (Tk.vl ps[k])) = 1 → Kd.R Kd.bool 4 (wr.setCell ⟨g, (Tk.tv true (Tk.vl ps[k])).toNat, none⟩ (.bool true)) w4.heap.size (fun _ => True) (.slice (some ⟨g, 0, none⟩) 1601 cap) (spec_taSay.tb 1601 true (Tk.vals ps) (Tk.vals (ps.take (k + 1)))) ∧ Below w4.heap.size w4 (wr.setCell ⟨g, (Tk.tv true (Tk.vl ps[k])).toNat, none⟩ (.bool true))) ∧ (Tk.cnt (!true) (Tk.vals ps) (Tk.tv (!true) (Tk.vl ps[k])) ≠ 1 → Kd.R Kd.bool 4 wr w4.heap.size (fun _ => True) (.slice (some ⟨g, 0, none⟩) 1601 cap) (spec_taSay.tb 1601 true (Tk.vals ps) (Tk.vals (ps.take (k + 1)))) ∧ Below w4.heap.size w4 wr) from ⟨fun h1 => ⟨by rw [ht, ← spec_taSay.tb_set 1601 true (Tk.vals ps) (Tk.vals (ps.take k)) (Tk.vl ps[k]) (by omega) h1]; exact hput.1, below_set HS.out.2 (Kd.R_base HS.out.1 g (by simp [Value.ownBlock]))⟩, fun h1 => ⟨by rw [ht, ← spec_taSay.tb_same 1601 true (Tk.vals ps) (Tk.vals (ps.take k)) (Tk.vl ps[k]) h1]; exact HS.out.1, HS.out.2⟩⟩)
        clear hput ht hpm hbdo hbds hH ev hww
        rw [show Tk.wh (!true) = ⟨#[112]⟩ from rfl] at HC1
        rw [show Tk.wh true = ⟨#[115]⟩ from rfl] at HC2
        generalize Tk.cnt (!true) (Tk.vals ps) (Tk.tv (!true) (Tk.vl ps[k])) = d at hco HNX
        generalize Tk.tv (!true) (Tk.vl ps[k]) = x at hco HC1 hx0 hx1
        generalize Tk.tv true (Tk.vl ps[k]) = y at HC2 HNX hm1 hm2 hy0 hy1
        unfold Tk.cv at hcell
        by_cases hd : d = 1
        · subst hd
          have HN := Aside0.mk (HNX.out.1 rfl)
          clear HNX
          go_wp2_with (first
            | (go_at_call 103; refine HC1.out.mono ?_; rintro e w7 ⟨rfl, j7, rfl⟩; clear HC1)
            | (go_at_call 103; refine (HC2.out _).mono ?_; rintro e w8 ⟨rfl, j8, rfl⟩))
          go_roundg (ps.length - (k + 1))
          case measure => omega
          case rel => exact ⟨k + 1, by go_num, by omega, Nat.le_refl _, ⟨Kd.R_drewN HN.out.1 (j7 + j8), pw_below_drewN HN.out.2 (j7 + j8)⟩⟩
        · have hdz : ¬ (d : Int) = 1 := by omega
          have HN := Aside0.mk (HNX.out.2 hd)
          clear HNX
          go_wp2_with (go_at_call 103; refine HC1.out.mono ?_; rintro e w7 ⟨rfl, j7, rfl⟩; clear HC1)
          go_roundg (ps.length - (k + 1))
          case measure => omega
          case rel => exact ⟨k + 1, by go_num, by omega, Nat.le_refl _, ⟨Kd.R_drewN HN.out.1 _, pw_below_drewN HN.out.2 _⟩⟩
      · have hkz : ¬ (k : Int) < (ps.length : Int) := by omega
        obtain rfl : k = ps.length := by omega
        go_wp2
        obtain ⟨w6, e6⟩ : ∃ w6, w6 = wr := ⟨_, rfl⟩
        subst e6
        have h0 : (Tk.KP.R 36 w6 w6.heap.size (fun _ => True) (.slice none 0 0) ([] : List Tk.PP)) := Kd.R_nil _ _ _ _ _
        have HM := Aside0.mk (show (∀ x, 0 ≤ x → x < 1601 → w6.cell? ⟨g, x.toNat, none⟩ = some (.bool (Tk.might true (Tk.vals ps) (Tk.vals ps) x))) ∧ Below w4.heap.size w4 w6 from ⟨fun x h0 h1 => by
          have h2 := HS.out.1
          rw [List.take_length] at h2
          have h3 := (Kd.R_celln false h2 x h0 (by omega)).1
          rwa [spec_taSay.tb_at _ _ _ _ _ ⟨h0, h1⟩] at h3, HS.out.2⟩)
        clear HS
        go_loopg [13, 49] ps.length (fun gg s13 s49 w' => ∃ (k : Nat) (qs : List Tk.PP), s49 = .int .i64 (k : Int) ∧ k ≤ ps.length ∧ ps.length - k ≤ gg ∧ Aside0 (qs = (ps.take k).filter (fun p => Tk.keepSay true what (Tk.vals ps) (Tk.vl p)) ∧ Tk.KP.R 36 w' w6.heap.size (fun _ => True) s13 qs ∧ Below w6.heap.size w6 w' ∧ qs.length ≤ k))
        case atStart => exact ⟨0, [], rfl, Nat.zero_le _, by omega, ⟨rfl, h0, Below.refl _ _, Nat.le_refl _⟩⟩
        case round =>
          obtain ⟨k, qs, rfl, hk, hgg, HQ⟩ := hrel
          clear h0
          by_cases hi : k < ps.length
          · have hkz : (k : Int) < (ps.length : Int) := by omega
            have hb6 := below_step HM.out.2 HQ.out.2.2.1
            have hww := below_then HB4.out HB4.out.size hb6
            have hH := HH.out.below hww
            obtain ⟨g0, cap0, ev, hcell⟩ := hH.at_ k hi
            obtain ⟨rfl, rfl⟩ : A = some ⟨g0, 0, none⟩ ∧ c = cap0 := by injection ev with e1 e2 e3; exact ⟨e1, e3⟩
            have hpm : ps[k] ∈ ps := List.getElem_mem hi
            have hbds := Tk.tv_bd true ps[k] (HO.out.2 _ hpm)
            have hco := (CO.out _ (Tk.tv true (Tk.vl ps[k])) hb6 (by omega) (by omega)).2
            have hcm := pw_cell_below HQ.out.2.2.1 (HM.out.1 (Tk.tv true (Tk.vl ps[k])) (by omega) (by omega))
            have HC2 := Aside0.mk (T103.out true ps[k] _ hpm hH.inn)
            have hpos := spec_taSay.cnt_pos true ps ps[k] hpm
            have hy0 : 0 ≤ Tk.tv true (Tk.vl ps[k]) := by omega
            have hy1 : Tk.tv true (Tk.vl ps[k]) < 1601 := by omega
            have HKY := Aside0.mk (show (Tk.keepSay true what (Tk.vals ps) (Tk.vl ps[k]) = true → qs ++ [ps[k]] = (ps.take (k + 1)).filter (fun p => Tk.keepSay true what (Tk.vals ps) (Tk.vl p))) ∧ (Tk.keepSay true what (Tk.vals ps) (Tk.vl ps[k]) = false → qs = (ps.take (k + 1)).filter (fun p => Tk.keepSay true what (Tk.vals ps) (Tk.vl p))) from ⟨fun h => by rw [HQ.out.1, List.take_succ_eq_append_getElem hi, List.filter_append]; simp [h], fun h => by rw [HQ.out.1, List.take_succ_eq_append_getElem hi, List.filter_append]; simp [h]⟩)
            have EK : ∀ what, Tk.keepSay true what (Tk.vals ps) (Tk.vl ps[k]) = if what = 33 then !(Tk.might true (Tk.vals ps) (Tk.vals ps) (Tk.tv true (Tk.vl ps[k]))) else decide (Tk.cnt true (Tk.vals ps) (Tk.tv true (Tk.vl ps[k])) = 1) == decide (what = 43) := fun _ => rfl
            rw [EK] at HKY
            clear EK hpm hbds hH ev hww hb6
            rw [show Tk.wh true = ⟨#[115]⟩ from rfl] at HC2
            generalize Tk.cnt true (Tk.vals ps) (Tk.tv true (Tk.vl ps[k])) = d at hco HKY hpos
            generalize Tk.might true (Tk.vals ps) (Tk.vals ps) (Tk.tv true (Tk.vl ps[k])) = b at hcm HKY
            generalize Tk.tv true (Tk.vl ps[k]) = y at HC2 hco hcm hy0 hy1
            unfold Tk.cv at hcell
            rcases hw with rfl | rfl | rfl
            · by_cases hd : (1 : Int) < (d : Int)
              · go_wp2_with (first
                  | (go_at_call 103; refine HC2.out.mono ?_; rintro e w8 ⟨rfl, j8, rfl⟩; clear HC2)
                  | ((with_reducible refine gate_builtin (b := .append) (xs := #[.tmp 87, .tmp 89]) rfl ?_); at_builtin; refine Kd.R_append Tk.KP (w0 := w6) w6.heap.size rfl (.tmp 87) (.tmp 89) 25 36 (.slice none 0 0) 24 rfl Try.underlying25 (by kernel_rfl) rfl (by decide) (by omega) u13 qs ps[k] [.slice (some ⟨ps[k].1, 0, none⟩) 2 2] (fun _ => True) (fun _ => False) rfl (by first | (go_simp; done) | (go_simp; rfl)) rfl (fun _ hk => hk.elim) (fun _ _ => trivial) (Kd.R_drewN HQ.out.2.1 _) (pw_below_drewN HQ.out.2.2.1 _) HQ.out.2.2.1.size (by have := HQ.out.2.2.2; omega) ?_; intro v9 w9 ho hb hg hat; have HO9 := Aside0.mk (show _ ∧ _ from ⟨ho, hb⟩); clear ho hb hg hat))
                go_roundg (ps.length - (k + 1))
                case measure => omega
                case rel => exact ⟨k + 1, qs ++ [ps[k]], by go_num, by omega, Nat.le_refl _, ⟨HKY.out.1 (by simp; omega), HO9.out.1, HO9.out.2, by rw [List.length_append, List.length_singleton]; have := HQ.out.2.2.2; omega⟩⟩
              · go_wp2_with (go_at_call 103; refine HC2.out.mono ?_; rintro e w8 ⟨rfl, j8, rfl⟩; clear HC2)
                go_roundg (ps.length - (k + 1))
                case measure => omega
                case rel => exact ⟨k + 1, qs, by go_num, by omega, Nat.le_refl _, ⟨HKY.out.2 (by simp; omega), Kd.R_drewN HQ.out.2.1 _, pw_below_drewN HQ.out.2.2.1 _, by have := HQ.out.2.2.2; omega⟩⟩
            · by_cases hd : (d : Int) = 1
              · go_wp2_with (first
                  | (go_at_call 103; refine HC2.out.mono ?_; rintro e w8 ⟨rfl, j8, rfl⟩; clear HC2)
                  | ((with_reducible refine gate_builtin (b := .append) (xs := #[.tmp 87, .tmp 89]) rfl ?_); at_builtin; refine Kd.R_append Tk.KP (w0 := w6) w6.heap.size rfl (.tmp 87) (.tmp 89) 25 36 (.slice none 0 0) 24 rfl Try.underlying25 (by kernel_rfl) rfl (by decide) (by omega) u13 qs ps[k] [.slice (some ⟨ps[k].1, 0, none⟩) 2 2] (fun _ => True) (fun _ => False) rfl (by first | (go_simp; done) | (go_simp; rfl)) rfl (fun _ hk => hk.elim) (fun _ _ => trivial) (Kd.R_drewN HQ.out.2.1 _) (pw_below_drewN HQ.out.2.2.1 _) HQ.out.2.2.1.size (by have := HQ.out.2.2.2; omega) ?_; intro v9 w9 ho hb hg hat; have HO9 := Aside0.mk (show _ ∧ _ from ⟨ho, hb⟩); clear ho hb hg hat))
                go_roundg (ps.length - (k + 1))
                case measure => omega
                case rel => exact ⟨k + 1, qs ++ [ps[k]], by go_num, by omega, Nat.le_refl _, ⟨HKY.out.1 (by simp; omega), HO9.out.1, HO9.out.2, by rw [List.length_append, List.length_singleton]; have := HQ.out.2.2.2; omega⟩⟩
              · go_wp2_with (go_at_call 103; refine HC2.out.mono ?_; rintro e w8 ⟨rfl, j8, rfl⟩; clear HC2)
                go_roundg (ps.length - (k + 1))
                case measure => omega
                case rel => exact ⟨k + 1, qs, by go_num, by omega, Nat.le_refl _, ⟨HKY.out.2 (by simp; omega), Kd.R_drewN HQ.out.2.1 _, pw_below_drewN HQ.out.2.2.1 _, by have := HQ.out.2.2.2; omega⟩⟩
            · cases b with
              | false =>
                go_wp2_with (first
                  | (go_at_call 103; refine HC2.out.mono ?_; rintro e w8 ⟨rfl, j8, rfl⟩; clear HC2)
                  | ((with_reducible refine gate_builtin (b := .append) (xs := #[.tmp 87, .tmp 89]) rfl ?_); at_builtin; refine Kd.R_append Tk.KP (w0 := w6) w6.heap.size rfl (.tmp 87) (.tmp 89) 25 36 (.slice none 0 0) 24 rfl Try.underlying25 (by kernel_rfl) rfl (by decide) (by omega) u13 qs ps[k] [.slice (some ⟨ps[k].1, 0, none⟩) 2 2] (fun _ => True) (fun _ => False) rfl (by first | (go_simp; done) | (go_simp; rfl)) rfl (fun _ hk => hk.elim) (fun _ _ => trivial) (Kd.R_drewN HQ.out.2.1 _) (pw_below_drewN HQ.out.2.2.1 _) HQ.out.2.2.1.size (by have := HQ.out.2.2.2; omega) ?_; intro v9 w9 ho hb hg hat; have HO9 := Aside0.mk (show _ ∧ _ from ⟨ho, hb⟩); clear ho hb hg hat))
                go_roundg (ps.length - (k + 1))
                case measure => omega
                case rel => exact ⟨k + 1, qs ++ [ps[k]], by go_num, by omega, Nat.le_refl _, ⟨HKY.out.1 (by simp), HO9.out.1, HO9.out.2, by rw [List.length_append, List.length_singleton]; have := HQ.out.2.2.2; omega⟩⟩
              | true =>
                go_wp2_with (go_at_call 103; refine HC2.out.mono ?_; rintro e w8 ⟨rfl, j8, rfl⟩; clear HC2)
                go_roundg (ps.length - (k + 1))
                case measure => omega
                case rel => exact ⟨k + 1, qs, by go_num, by omega, Nat.le_refl _, ⟨HKY.out.2 (by simp), Kd.R_drewN HQ.out.2.1 _, pw_below_drewN HQ.out.2.2.1 _, by have := HQ.out.2.2.2; omega⟩⟩
          · have hkz : ¬ (k : Int) < (ps.length : Int) := by omega
            obtain rfl : k = ps.length := by omega
            go_wp2
            go_ret
            obtain ⟨hq, hR, hb, _⟩ := HQ.out
            rw [List.take_length] at hq
            have hq' : qs = impl_behind.sel true what ps := hq
            subst hq'
            have hb6 := below_step HM.out.2 hb
            have hin := (HH.out.below (below_then HB4.out HB4.out.size HM.out.2)).inn
            have hs : ∀ p ∈ impl_behind.sel true what ps, p ∈ ps := fun p hp => (List.mem_filter.1 hp).1
            refine ⟨_, rfl, Tk.Has.lower (base := w6.heap.size) (lo := lo) ⟨Tk.row_of hR, (hin.below hb).sub hs, HH.out.nod.sublist ((List.filter_sublist (l := ps)).map _), fun p hp e => ?_⟩ (Nat.le_trans HB4.out.size HM.out.2.size) (Nat.le_refl _), below_then HB4.out HB4.out.size hb6⟩
            have h1 := hin.lt p (hs p hp)
            have h2 := Kd.R_base hR p.1 e
            omega
  | false =>
    rw [show Tk.wh false = ⟨#[112]⟩ from rfl] at T109s ⊢
    rw [show Tk.wh (!false) = ⟨#[115]⟩ from rfl] at T109o
    go_enter Try.func77, Try.ntmps77
    go_wp2_with (first
      | (go_at_call 109; refine (T109s.out _ (Below.refl _ _)).mono ?_; rintro e w3 ⟨A8, c8, rfl, r3⟩; clear T109s)
      | (go_at_call 109; refine (T109o.out _ r3.out.2).mono ?_; rintro e w4 ⟨A9, c9, rfl, r4⟩; clear T109o)
      | (at_make; refine Kd.R_make Kd.bool (w0 := w4) _ 4 rfl (N := 27) rfl 99 _ _ rfl 1601 rfl rfl Try.underlying99 (.bool false) 1 (by kernel_rfl) rfl (by decide) (by omega) false (ok := fun _ => True) (okp := fun _ => True) rfl (fun _ hk => hk) trivial (by omega) (by omega) (Below.refl _ _) (Nat.le_refl _) ?_; intro v5 w5 ho5 hb5 hg5 hn5; have R5 := Aside0.mk (show _ ∧ _ from ⟨ho5, hb5⟩); clear ho5 hb5 hg5 hn5))
    obtain ⟨g, cap, e5, hg1, hg2, _⟩ := Kd.R_form R5.out.1 (by simp)
    rw [List.length_replicate] at e5
    subst e5
    obtain ⟨ad8, rfl, _⟩ := Kd.at_int r3.out.1 0 (by omega) (by omega)
    obtain ⟨ad9, rfl, _⟩ := Kd.at_int r4.out.1 0 (by omega) (by omega)
    have hb4 : Below w.heap.size w w4 := below_step r3.out.2 r4.out.2
    have HB4 := Aside0.mk hb4
    have CO : Aside0 (∀ W x, Below w4.heap.size w4 W → 0 ≤ x → x < 1601 → W.cell? (ad9.add x.toNat) = some (.int .i64 (Tk.cnt (!false) (Tk.vals ps) x : Int)) ∧ W.cell? (ad8.add x.toNat) = some (.int .i64 (Tk.cnt false (Tk.vals ps) x : Int))) := ⟨fun W x hW h0 h1 => by
      obtain ⟨a9, e9, h9⟩ := Kd.at_int r4.out.1 x h0 h1
      obtain ⟨a8, e8, h8⟩ := Kd.at_int r3.out.1 x h0 h1
      injection e9 with e9
      injection e8 with e8
      subst e9 e8
      rw [spec_taCounts.cl_at _ _ _ ⟨h0, h1⟩] at h9 h8
      exact ⟨pw_cell_below hW h9, pw_cell_below hW (pw_cell_below r4.out.2 h8)⟩⟩
    have HS0 := Aside0.mk (show Kd.R Kd.bool 4 w5 w4.heap.size (fun _ => True) (.slice (some ⟨g, 0, none⟩) 1601 cap) (spec_taSay.tb 1601 false (Tk.vals ps) (Tk.vals (ps.take 0))) ∧ Below w4.heap.size w4 w5 from ⟨by
      have := R5.out.1
      rw [spec_taSay.tb_zero (1601 : Int).toNat false (Tk.vals ps)] at this
      exact this, R5.out.2⟩)
    clear hb4 hg1 hg2 R5 r3 r4
    go_loopg [30] ps.length (fun gg s30 wr => ∃ k : Nat, s30 = .int .i64 (k : Int) ∧ k ≤ ps.length ∧ ps.length - k ≤ gg ∧ Aside0 (Kd.R Kd.bool 4 wr w4.heap.size (fun _ => True) (.slice (some ⟨g, 0, none⟩) 1601 cap) (spec_taSay.tb 1601 false (Tk.vals ps) (Tk.vals (ps.take k))) ∧ Below w4.heap.size w4 wr))
    case atStart => exact ⟨0, rfl, Nat.zero_le _, by omega, HS0⟩
    case round =>
      obtain ⟨k, rfl, hk, hgg, HS⟩ := hrel
      clear HS0
      by_cases hi : k < ps.length
      · have hkz : (k : Int) < (ps.length : Int) := by omega
        have hww := below_then HB4.out HB4.out.size HS.out.2
        have hH := HH.out.below hww
        obtain ⟨g0, cap0, ev, hcell⟩ := hH.at_ k hi
        obtain ⟨rfl, rfl⟩ : A = some ⟨g0, 0, none⟩ ∧ c = cap0 := by injection ev with e1 e2 e3; exact ⟨e1, e3⟩
        have hpm : ps[k] ∈ ps := List.getElem_mem hi
        have hbdo := Tk.tv_bd (!false) ps[k] (HO.out.2 _ hpm)
        have hbds := Tk.tv_bd false ps[k] (HO.out.2 _ hpm)
        have hco := (CO.out wr (Tk.tv (!false) (Tk.vl ps[k])) HS.out.2 (by omega) (by omega)).1
        obtain ⟨hm1, hm2⟩ := Kd.R_celln false HS.out.1 (Tk.tv false (Tk.vl ps[k])) (by omega) (by omega)
        have hput := Kd.R_putg HS.out.1 (Tk.tv false (Tk.vl ps[k])) true
        have ht : Tk.vals (ps.take (k + 1)) = Tk.vals (ps.take k) ++ [Tk.vl ps[k]] := by unfold Tk.vals; rw [List.take_succ_eq_append_getElem hi, List.map_append]; rfl
        have HC1 := Aside0.mk (T103.out (!false) ps[k] wr hpm hH.inn)
        have HC2 := Aside0.mk (fun j => T103.out false ps[k] (wr.drewN j) hpm (hH.inn.below (pw_below_drewN (Below.refl _ _) j)))
        have hx0 : 0 ≤ Tk.tv (!false) (Tk.vl ps[k]) := by omega
        have hx1 : Tk.tv (!false) (Tk.vl ps[k]) < 1601 := by omega
        have hy0 : 0 ≤ Tk.tv false (Tk.vl ps[k]) := by omega
        have hy1 : Tk.tv false (Tk.vl ps[k]) < 1601 := by omega
        have HNX := Aside0.mk (show (Tk.cnt (!false) (Tk.vals ps) (Tk.tv (!false) (Tk.vl ps[k])) = 1 → Kd.R Kd.bool 4 (wr.setCell ⟨g, (Tk.tv false (Tk.vl ps[k])).toNat, none⟩ (.bool true)) w4.heap.size (fun _ => True) (.slice (some ⟨g, 0, none⟩) 1601 cap) (spec_taSay.tb 1601 false (Tk.vals ps) (Tk.vals (ps.take (k + 1)))) ∧ Below w4.heap.size w4 (wr.setCell ⟨g, (Tk.tv false (Tk.vl ps[k])).toNat, none⟩ (.bool true))) ∧ (Tk.cnt (!false) (Tk.vals ps) (Tk.tv (!false) (Tk.vl ps[k])) ≠ 1 → Kd.R Kd.bool 4 wr w4.heap.size (fun _ => True) (.slice (some ⟨g, 0, none⟩) 1601 cap) (spec_taSay.tb 1601 false (Tk.vals ps) (Tk.vals (ps.take (k + 1)))) ∧ Below w4.heap.size w4 wr) from ⟨fun h1 => ⟨by rw [ht, ← spec_taSay.tb_set 1601 false (Tk.vals ps) (Tk.vals (ps.take k)) (Tk.vl ps[k]) (by omega) h1]; exact hput.1, below_set HS.out.2 (Kd.R_base HS.out.1 g (by simp [Value.ownBlock]))⟩, fun h1 => ⟨by rw [ht, ← spec_taSay.tb_same 1601 false (Tk.vals ps) (Tk.vals (ps.take k)) (Tk.vl ps[k]) h1]; exact HS.out.1, HS.out.2⟩⟩)
        clear hput ht hpm hbdo hbds hH ev hww
        rw [show Tk.wh (!false) = ⟨#[115]⟩ from rfl] at HC1
        rw [show Tk.wh false = ⟨#[112]⟩ from rfl] at HC2
        generalize Tk.cnt (!false) (Tk.vals ps) (Tk.tv (!false) (Tk.vl ps[k])) = d at hco HNX
        generalize Tk.tv (!false) (Tk.vl ps[k]) = x at hco HC1 hx0 hx1
        generalize Tk.tv false (Tk.vl ps[k]) = y at HC2 HNX hm1 hm2 hy0 hy1
        unfold Tk.cv at hcell
        by_cases hd : d = 1
        · subst hd
          have HN := Aside0.mk (HNX.out.1 rfl)
          clear HNX
          go_wp2_with (first
            | (go_at_call 103; refine HC1.out.mono ?_; rintro e w7 ⟨rfl, j7, rfl⟩; clear HC1)
            | (go_at_call 103; refine (HC2.out _).mono ?_; rintro e w8 ⟨rfl, j8, rfl⟩))
          go_roundg (ps.length - (k + 1))
          case measure => omega
          case rel => exact ⟨k + 1, by go_num, by omega, Nat.le_refl _, ⟨Kd.R_drewN HN.out.1 (j7 + j8), pw_below_drewN HN.out.2 (j7 + j8)⟩⟩
        · have hdz : ¬ (d : Int) = 1 := by omega
          have HN := Aside0.mk (HNX.out.2 hd)
          clear HNX
          go_wp2_with (go_at_call 103; refine HC1.out.mono ?_; rintro e w7 ⟨rfl, j7, rfl⟩; clear HC1)
          go_roundg (ps.length - (k + 1))
          case measure => omega
          case rel => exact ⟨k + 1, by go_num, by omega, Nat.le_refl _, ⟨Kd.R_drewN HN.out.1 _, pw_below_drewN HN.out.2 _⟩⟩
      · have hkz : ¬ (k : Int) < (ps.length : Int) := by omega
        obtain rfl : k = ps.length := by omega
        go_wp2
        obtain ⟨w6, e6⟩ : ∃ w6, w6 = wr := ⟨_, rfl⟩
        subst e6
        have h0 : (Tk.KP.R 36 w6 w6.heap.size (fun _ => True) (.slice none 0 0) ([] : List Tk.PP)) := Kd.R_nil _ _ _ _ _
        have HM := Aside0.mk (show (∀ x, 0 ≤ x → x < 1601 → w6.cell? ⟨g, x.toNat, none⟩ = some (.bool (Tk.might false (Tk.vals ps) (Tk.vals ps) x))) ∧ Below w4.heap.size w4 w6 from ⟨fun x h0 h1 => by
          have h2 := HS.out.1
          rw [List.take_length] at h2
          have h3 := (Kd.R_celln false h2 x h0 (by omega)).1
          rwa [spec_taSay.tb_at _ _ _ _ _ ⟨h0, h1⟩] at h3, HS.out.2⟩)
        clear HS
        go_loopg [13, 49] ps.length (fun gg s13 s49 w' => ∃ (k : Nat) (qs : List Tk.PP), s49 = .int .i64 (k : Int) ∧ k ≤ ps.length ∧ ps.length - k ≤ gg ∧ Aside0 (qs = (ps.take k).filter (fun p => Tk.keepSay false what (Tk.vals ps) (Tk.vl p)) ∧ Tk.KP.R 36 w' w6.heap.size (fun _ => True) s13 qs ∧ Below w6.heap.size w6 w' ∧ qs.length ≤ k))
        case atStart => exact ⟨0, [], rfl, Nat.zero_le _, by omega, ⟨rfl, h0, Below.refl _ _, Nat.le_refl _⟩⟩
        case round =>
          obtain ⟨k, qs, rfl, hk, hgg, HQ⟩ := hrel
          clear h0
          by_cases hi : k < ps.length
          · have hkz : (k : Int) < (ps.length : Int) := by omega
            have hb6 := below_step HM.out.2 HQ.out.2.2.1
            have hww := below_then HB4.out HB4.out.size hb6
            have hH := HH.out.below hww
            obtain ⟨g0, cap0, ev, hcell⟩ := hH.at_ k hi
            obtain ⟨rfl, rfl⟩ : A = some ⟨g0, 0, none⟩ ∧ c = cap0 := by injection ev with e1 e2 e3; exact ⟨e1, e3⟩
            have hpm : ps[k] ∈ ps := List.getElem_mem hi
            have hbds := Tk.tv_bd false ps[k] (HO.out.2 _ hpm)
            have hco := (CO.out _ (Tk.tv false (Tk.vl ps[k])) hb6 (by omega) (by omega)).2
            have hcm := pw_cell_below HQ.out.2.2.1 (HM.out.1 (Tk.tv false (Tk.vl ps[k])) (by omega) (by omega))
            have HC2 := Aside0.mk (T103.out false ps[k] _ hpm hH.inn)
            have hpos := spec_taSay.cnt_pos false ps ps[k] hpm
            have hy0 : 0 ≤ Tk.tv false (Tk.vl ps[k]) := by omega
            have hy1 : Tk.tv false (Tk.vl ps[k]) < 1601 := by omega
            have HKY := Aside0.mk (show (Tk.keepSay false what (Tk.vals ps) (Tk.vl ps[k]) = true → qs ++ [ps[k]] = (ps.take (k + 1)).filter (fun p => Tk.keepSay false what (Tk.vals ps) (Tk.vl p))) ∧ (Tk.keepSay false what (Tk.vals ps) (Tk.vl ps[k]) = false → qs = (ps.take (k + 1)).filter (fun p => Tk.keepSay false what (Tk.vals ps) (Tk.vl p))) from ⟨fun h => by rw [HQ.out.1, List.take_succ_eq_append_getElem hi, List.filter_append]; simp [h], fun h => by rw [HQ.out.1, List.take_succ_eq_append_getElem hi, List.filter_append]; simp [h]⟩)
            have EK : ∀ what, Tk.keepSay false what (Tk.vals ps) (Tk.vl ps[k]) = if what = 33 then !(Tk.might false (Tk.vals ps) (Tk.vals ps) (Tk.tv false (Tk.vl ps[k]))) else decide (Tk.cnt false (Tk.vals ps) (Tk.tv false (Tk.vl ps[k])) = 1) == decide (what = 43) := fun _ => rfl
            rw [EK] at HKY
            clear EK hpm hbds hH ev hww hb6
            rw [show Tk.wh false = ⟨#[112]⟩ from rfl] at HC2
            generalize Tk.cnt false (Tk.vals ps) (Tk.tv false (Tk.vl ps[k])) = d at hco HKY hpos
            generalize Tk.might false (Tk.vals ps) (Tk.vals ps) (Tk.tv false (Tk.vl ps[k])) = b at hcm HKY
            generalize Tk.tv false (Tk.vl ps[k]) = y at HC2 hco hcm hy0 hy1
            unfold Tk.cv at hcell
            rcases hw with rfl | rfl | rfl
            · by_cases hd : (1 : Int) < (d : Int)
              · go_wp2_with (first
                  | (go_at_call 103; refine HC2.out.mono ?_; rintro e w8 ⟨rfl, j8, rfl⟩; clear HC2)
                  | ((with_reducible refine gate_builtin (b := .append) (xs := #[.tmp 87, .tmp 89]) rfl ?_); at_builtin; refine Kd.R_append Tk.KP (w0 := w6) w6.heap.size rfl (.tmp 87) (.tmp 89) 25 36 (.slice none 0 0) 24 rfl Try.underlying25 (by kernel_rfl) rfl (by decide) (by omega) u13 qs ps[k] [.slice (some ⟨ps[k].1, 0, none⟩) 2 2] (fun _ => True) (fun _ => False) rfl (by first | (go_simp; done) | (go_simp; rfl)) rfl (fun _ hk => hk.elim) (fun _ _ => trivial) (Kd.R_drewN HQ.out.2.1 _) (pw_below_drewN HQ.out.2.2.1 _) HQ.out.2.2.1.size (by have := HQ.out.2.2.2; omega) ?_; intro v9 w9 ho hb hg hat; have HO9 := Aside0.mk (show _ ∧ _ from ⟨ho, hb⟩); clear ho hb hg hat))
                go_roundg (ps.length - (k + 1))
                case measure => omega
                case rel => exact ⟨k + 1, qs ++ [ps[k]], by go_num, by omega, Nat.le_refl _, ⟨HKY.out.1 (by simp; omega), HO9.out.1, HO9.out.2, by rw [List.length_append, List.length_singleton]; have := HQ.out.2.2.2; omega⟩⟩
              · go_wp2_with (go_at_call 103; refine HC2.out.mono ?_; rintro e w8 ⟨rfl, j8, rfl⟩; clear HC2)
                go_roundg (ps.length - (k + 1))
                case measure => omega
                case rel => exact ⟨k + 1, qs, by go_num, by omega, Nat.le_refl _, ⟨HKY.out.2 (by simp; omega), Kd.R_drewN HQ.out.2.1 _, pw_below_drewN HQ.out.2.2.1 _, by have := HQ.out.2.2.2; omega⟩⟩
            · by_cases hd : (d : Int) = 1
              · go_wp2_with (first
                  | (go_at_call 103; refine HC2.out.mono ?_; rintro e w8 ⟨rfl, j8, rfl⟩; clear HC2)
                  | ((with_reducible refine gate_builtin (b := .append) (xs := #[.tmp 87, .tmp 89]) rfl ?_); at_builtin; refine Kd.R_append Tk.KP (w0 := w6) w6.heap.size rfl (.tmp 87) (.tmp 89) 25 36 (.slice none 0 0) 24 rfl Try.underlying25 (by kernel_rfl) rfl (by decide) (by omega) u13 qs ps[k] [.slice (some ⟨ps[k].1, 0, none⟩) 2 2] (fun _ => True) (fun _ => False) rfl (by first | (go_simp; done) | (go_simp; rfl)) rfl (fun _ hk => hk.elim) (fun _ _ => trivial) (Kd.R_drewN HQ.out.2.1 _) (pw_below_drewN HQ.out.2.2.1 _) HQ.out.2.2.1.size (by have := HQ.out.2.2.2; omega) ?_; intro v9 w9 ho hb hg hat; have HO9 := Aside0.mk (show _ ∧ _ from ⟨ho, hb⟩); clear ho hb hg hat))
                go_roundg (ps.length - (k + 1))
                case measure => omega
                case rel => exact ⟨k + 1, qs ++ [ps[k]], by go_num, by omega, Nat.le_refl _, ⟨HKY.out.1 (by simp; omega), HO9.out.1, HO9.out.2, by rw [List.length_append, List.length_singleton]; have := HQ.out.2.2.2; omega⟩⟩
              · go_wp2_with (go_at_call 103; refine HC2.out.mono ?_; rintro e w8 ⟨rfl, j8, rfl⟩; clear HC2)
                go_roundg (ps.length - (k + 1))
                case measure => omega
                case rel => exact ⟨k + 1, qs, by go_num, by omega, Nat.le_refl _, ⟨HKY.out.2 (by simp; omega), Kd.R_drewN HQ.out.2.1 _, pw_below_drewN HQ.out.2.2.1 _, by have := HQ.out.2.2.2; omega⟩⟩
            · cases b with
              | false =>
                go_wp2_with (first
                  | (go_at_call 103; refine HC2.out.mono ?_; rintro e w8 ⟨rfl, j8, rfl⟩; clear HC2)
                  | ((with_reducible refine gate_builtin (b := .append) (xs := #[.tmp 87, .tmp 89]) rfl ?_); at_builtin; refine Kd.R_append Tk.KP (w0 := w6) w6.heap.size rfl (.tmp 87) (.tmp 89) 25 36 (.slice none 0 0) 24 rfl Try.underlying25 (by kernel_rfl) rfl (by decide) (by omega) u13 qs ps[k] [.slice (some ⟨ps[k].1, 0, none⟩) 2 2] (fun _ => True) (fun _ => False) rfl (by first | (go_simp; done) | (go_simp; rfl)) rfl (fun _ hk => hk.elim) (fun _ _ => trivial) (Kd.R_drewN HQ.out.2.1 _) (pw_below_drewN HQ.out.2.2.1 _) HQ.out.2.2.1.size (by have := HQ.out.2.2.2; omega) ?_; intro v9 w9 ho hb hg hat; have HO9 := Aside0.mk (show _ ∧ _ from ⟨ho, hb⟩); clear ho hb hg hat))
                go_roundg (ps.length - (k + 1))
                case measure => omega
                case rel => exact ⟨k + 1, qs ++ [ps[k]], by go_num, by omega, Nat.le_refl _, ⟨HKY.out.1 (by simp), HO9.out.1, HO9.out.2, by rw [List.length_append, List.length_singleton]; have := HQ.out.2.2.2; omega⟩⟩
              | true =>
                go_wp2_with (go_at_call 103; refine HC2.out.mono ?_; rintro e w8 ⟨rfl, j8, rfl⟩; clear HC2)
                go_roundg (ps.length - (k + 1))
                case measure => omega
                case rel => exact ⟨k + 1, qs, by go_num, by omega, Nat.le_refl _, ⟨HKY.out.2 (by simp), Kd.R_drewN HQ.out.2.1 _, pw_below_drewN HQ.out.2.2.1 _, by have := HQ.out.2.2.2; omega⟩⟩
          · have hkz : ¬ (k : Int) < (ps.length : Int) := by omega
            obtain rfl : k = ps.length := by omega
            go_wp2
            go_ret
            obtain ⟨hq, hR, hb, _⟩ := HQ.out
            rw [List.take_length] at hq
            have hq' : qs = impl_behind.sel false what ps := hq
            subst hq'
            have hb6 := below_step HM.out.2 hb
            have hin := (HH.out.below (below_then HB4.out HB4.out.size HM.out.2)).inn
            have hs : ∀ p ∈ impl_behind.sel false what ps, p ∈ ps := fun p hp => (List.mem_filter.1 hp).1
            refine ⟨_, rfl, Tk.Has.lower (base := w6.heap.size) (lo := lo) ⟨Tk.row_of hR, (hin.below hb).sub hs, HH.out.nod.sublist ((List.filter_sublist (l := ps)).map _), fun p hp e => ?_⟩ (Nat.le_trans HB4.out.size HM.out.2.size) (Nat.le_refl _), below_then HB4.out HB4.out.size hb6⟩
            have h1 := hin.lt p (hs p hp)
            have h2 := Kd.R_base hR p.1 e
            omega

end Go.Proofs.Ytlkbphhmahipdaa.P
