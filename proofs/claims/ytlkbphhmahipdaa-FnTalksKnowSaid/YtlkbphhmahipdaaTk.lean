/- Rows of pairs of whole numbers, each pair in a block of its own: what they are in memory, and that they stay. No condition. -/
import Derived.Test.YtlkbphhmahipdaaHlp
import Derived.Test.YtlkbphhmahipdaaWMore
import Derived.Test.YtlkbphhmahipdaaWApart
namespace Go.Proofs.Ytlkbphhmahipdaa.Tk
open Go.RowKit Go.Proofs.YtlkbphhmahipdaaW.PrintWords
/-- A pair: its block, and both numbers. -/
abbrev PP := Nat × Int × Int
def cv (p : PP) : Value := .slice (some ⟨p.1, 0, none⟩) 2 2
def vl (p : PP) : List Int := [p.2.1, p.2.2]
def vals (ps : List PP) : List (List Int) := ps.map vl
/-- The pairs lie where they are said to lie, from block lo on. -/
def Inn (te : TypeId) (w : World) (lo : Nat) (ps : List PP) : Prop := ∀ p ∈ ps, lo ≤ p.1 ∧ w.heap[p.1]? = some (.cells #[.int .i64 p.2.1, .int .i64 p.2.2] te (0, 0))
section
variable {te ts : TypeId} {w W : World} {lo base g n cap : Nat} {ps : List PP} {v : Value}
theorem Inn.below (h : Inn te w lo ps) (hb : Below w.heap.size w W) : Inn te W lo ps := fun p hp => by
  obtain ⟨h1, h2⟩ := h p hp
  exact ⟨h1, (hb.block _ (Array.getElem?_eq_some_iff.1 h2).1).trans h2⟩
theorem Inn.keep (h : Inn te w lo ps) (B : Nat) (hB : ∀ p ∈ ps, p.1 < B) (hb : ∀ k, k < B → W.heap[k]? = w.heap[k]?) : Inn te W lo ps := fun p hp => by
  obtain ⟨h1, h2⟩ := h p hp
  exact ⟨h1, (hb _ (hB p hp)).trans h2⟩
theorem Inn.lt (h : Inn te w lo ps) (p : PP) (hp : p ∈ ps) : p.1 < w.heap.size := (Array.getElem?_eq_some_iff.1 (h p hp).2).1
theorem Inn.sub {qs : List PP} (h : Inn te w lo ps) (hs : ∀ p ∈ qs, p ∈ ps) : Inn te w lo qs := fun p hp => h p (hs p hp)
/-- A pair is read. -/
theorem Inn.C (h : Inn te w lo ps) (p : PP) (hp : p ∈ ps) : Kd.C (Kd.int .i64) w (some ⟨p.1, 0, none⟩) (vl p).length (vl p) := by
  obtain ⟨_, h2⟩ := h p hp
  have hown : w.ownsRow 0 te 1 (.slice (some ⟨p.1, 0, none⟩) 2 2) 2 (nums .i64 [p.2.1, p.2.2]) :=
    ⟨rfl, .inr ⟨p.1, 2, _, rfl, Nat.zero_le _, h2, Nat.le_refl _, by unfold maxLen; omega, rfl, rfl⟩⟩
  exact Kd.C_of_reads (d := (0 : Int)) (h1 := fun _ => rfl) (own_reads' hown)
theorem Inn.cells (h : Inn te w lo ps) (p : PP) (hp : p ∈ ps) : w.cell? ⟨p.1, 0, none⟩ = some (.int .i64 p.2.1) ∧ w.cell? ⟨p.1, 1, none⟩ = some (.int .i64 p.2.2) := by
  obtain ⟨_, h2⟩ := h p hp
  simp [World.cell?, h2]
theorem own_atP (h : w.ownsRow base te 1 (.slice (some ⟨g, 0, none⟩) n cap) n (ps.map cv)) (i : Nat) (hi : i < ps.length) : w.cell? ⟨g, i, none⟩ = some (cv ps[i]) ∧ w.frozen? ⟨g, i, none⟩ = false := by
  constructor
  · have hc := h.cells (g := g) rfl i (cv ps[i]) (by simp [hi])
    rwa [add_plain] at hc
  · rcases h.2 with ⟨h', _⟩ | ⟨g', cap', cur, h', _, hh, _⟩
    · cases h'
    · have : g = g' := by injection h' with h'; injection h' with h'; injection h' with h'
      subst this
      simp [World.frozen?, hh]
theorem own_storeP (h : w.ownsRow base te 1 (.slice (some ⟨g, 0, none⟩) n cap) n (ps.map cv)) (i : Nat) (x : PP) :
    (w.setCell ⟨g, i, none⟩ (cv x)).ownsRow base te 1 (.slice (some ⟨g, 0, none⟩) n cap) n ((ps.set i x).map cv) ∧ w.grownBy (w.setCell ⟨g, i, none⟩ (cv x)) (some g) := by
  have hs := h.stored i (cv x)
  rwa [List.map_set]
theorem own_cap (h : w.ownsRow base te 1 (.slice (some ⟨g, 0, none⟩) n cap) n (ps.map cv)) : n ≤ cap ∧ cap ≤ maxLen ∧ ps.length = n := by
  have hl : ps.length = n := by have := h.1; simpa using this
  rcases h.2 with ⟨h', _⟩ | ⟨g', cap', cur, h', _, hh, h1, h2, _⟩
  · cases h'
  · injection h' with _ _ h9
    exact ⟨by omega, by omega, hl⟩
/-- Where the row lies. -/
theorem own_formP (h : w.ownsRow base te 1 v ps.length (ps.map cv)) : (v = .slice none 0 0 ∧ ps = []) ∨ ∃ g cap, v = .slice (some ⟨g, 0, none⟩) ps.length cap ∧ base ≤ g ∧ g < w.heap.size := by
  rcases h.2 with ⟨rfl, h0⟩ | ⟨g', cap', cur, rfl, hb, hh, _⟩
  · exact .inl ⟨rfl, List.eq_nil_of_length_eq_zero h0⟩
  · exact .inr ⟨g', cap', rfl, hb, (Array.getElem?_eq_some_iff.1 hh).1⟩
/-- A row of pairs, each pair in a block of its own. -/
structure Has (ts te : TypeId) (w : World) (base lo : Nat) (v : Value) (ps : List PP) : Prop where
  row : w.ownsRow base ts 1 v ps.length (ps.map cv)
  inn : Inn te w lo ps
  nod : (ps.map (·.1)).Nodup
  ap : ∀ p ∈ ps, v.ownBlock ≠ some p.1
theorem Has.below (h : Has ts te w base lo v ps) (hb : Below w.heap.size w W) : Has ts te W base lo v ps := ⟨pw_own_below h.row hb, h.inn.below hb, h.nod, h.ap⟩
theorem Has.lower {b' l' : Nat} (h : Has ts te w base lo v ps) (h1 : b' ≤ base) (h2 : l' ≤ lo) : Has ts te w b' l' v ps := by
  refine ⟨?_, fun p hp => ⟨Nat.le_trans h2 (h.inn p hp).1, (h.inn p hp).2⟩, h.nod, h.ap⟩
  refine ⟨h.row.1, ?_⟩
  rcases h.row.2 with h3 | ⟨g', cap', cur, h3, h4, h5⟩
  · exact .inl h3
  · exact .inr ⟨g', cap', cur, h3, Nat.le_trans h1 h4, h5⟩
def KP : Kd PP := Kd.scalar cv (fun _ => rfl)
theorem encs_cv (ps : List PP) : encs cv ps = ps.map cv := by simp [encs]
theorem Has.R (h : Has ts te w base lo v ps) : KP.R ts w base (fun _ => True) v ps := Kd.R_of_own (by rw [encs_cv]; exact h.row) (fun _ _ => trivial)
theorem row_of (h : KP.R ts w base (fun _ => True) v ps) : w.ownsRow base ts 1 v ps.length (ps.map cv) := by
  have := Kd.own_of_R h
  rwa [encs_cv] at this
theorem Has.nil (w : World) (base lo : Nat) : Has ts te w base lo (.slice none 0 0) [] := ⟨own_nil _ _ _ _, (fun p hp => by cases hp), by simp, (fun p hp => by cases hp)⟩
/-- One more pair. -/
theorem Has.push {v1 : Value} (h : Has ts te w base lo v ps) (p : PP) (hp : lo ≤ p.1 ∧ w.heap[p.1]? = some (.cells #[.int .i64 p.2.1, .int .i64 p.2.2] te (0, 0))) (hn : ∀ q ∈ ps, q.1 ≠ p.1) (ha : v.ownBlock ≠ some p.1)
    (hR : KP.R ts W base (fun _ => True) v1 (ps ++ [p])) (hg : w.grownBy W v.ownBlock) (hat : v1.ownBlock = v.ownBlock ∨ ∃ b, v1.ownBlock = some b ∧ w.heap.size ≤ b) : Has ts te W base lo v1 (ps ++ [p]) := by
  have hin : Inn te w lo (ps ++ [p]) := by
    intro q hq
    rcases List.mem_append.1 hq with hq | hq
    · exact h.inn q hq
    · rw [List.mem_singleton.1 hq]; exact hp
  have hap : ∀ q ∈ ps ++ [p], v.ownBlock ≠ some q.1 := by
    intro q hq
    rcases List.mem_append.1 hq with hq | hq
    · exact h.ap q hq
    · rw [List.mem_singleton.1 hq]; exact ha
  refine ⟨row_of hR, fun q hq => ⟨(hin q hq).1, (hg.block q.1 (hin.lt q hq) (fun e => hap q hq e.symm)).trans (hin q hq).2⟩, ?_, fun q hq => ?_⟩
  · rw [List.map_append, List.nodup_append]
    refine ⟨h.nod, by simp, fun x hx y hy => ?_⟩
    obtain ⟨q, hq, rfl⟩ := List.mem_map.1 hx
    simp at hy
    subst hy
    exact hn q hq
  · rcases hat with e | ⟨b, e, hb⟩
    · rw [e]; exact hap q hq
    · rw [e]
      intro e2
      injection e2 with e2
      have := hin.lt q hq
      omega
/-- An element is read. -/
theorem Has.at_ (h : Has ts te w base lo v ps) (i : Nat) (hi : i < ps.length) : ∃ g cap, v = .slice (some ⟨g, 0, none⟩) ps.length cap ∧ w.cell? ⟨g, i, none⟩ = some (cv ps[i]) := by
  rcases own_formP h.row with ⟨_, rfl⟩ | ⟨g, cap, rfl, _⟩
  · exact absurd hi (Nat.not_lt_zero i)
  · exact ⟨g, cap, rfl, (own_atP h.row i hi).1⟩
theorem Has.slice (h : Has ts te w base lo v ps) : ∃ A c, v = .slice A ps.length c ∧ ps.length ≤ c ∧ ps.length ≤ 9223372036854775807 := by
  rcases h.row.2 with ⟨rfl, h0⟩ | ⟨g', cap', cur, rfl, _, _, h1, h2, _⟩
  · exact ⟨none, 0, by rw [h0], by omega, by omega⟩
  · exact ⟨_, _, rfl, h1, Nat.le_trans h1 h2⟩
theorem Has.lt (h : Has ts te w base lo v ps) (k : Nat) (hk : v.ownBlock = some k) : base ≤ k ∧ k < w.heap.size := by
  rcases own_formP h.row with ⟨rfl, _⟩ | ⟨g, cap, rfl, h1, h2⟩
  · simp [Value.ownBlock] at hk
  · simp [Value.ownBlock] at hk
    omega
/-- The row is read as a row of rows. -/
theorem Has.C {A : Option Addr} {c : Nat} (h : Has ts te w base lo (.slice A ps.length c) ps) : Kd.C (Kd.slice te (Kd.int .i64)) w A (vals ps).length (vals ps) := by
  have hl : (vals ps).length = ps.length := by simp [vals]
  obtain ⟨_, _, e, _, hmax⟩ := h.slice
  rw [hl]
  refine ⟨hl, hmax, fun hpos => ?_⟩
  obtain ⟨g, cap, e2, _⟩ := h.at_ 0 hpos
  injection e2 with e1 _ e3
  subst e1
  refine ⟨_, rfl, fun j x hj => ?_⟩
  obtain ⟨hjl, rfl⟩ := List.getElem?_eq_some_iff.1 hj
  have hjl' : j < ps.length := by rw [← hl]; exact hjl
  have ex : (vals ps)[j] = vl ps[j] := by simp [vals]
  rw [ex]
  refine ⟨[cv ps[j]], rfl, ⟨some ⟨ps[j].1, 0, none⟩, 2, rfl, Nat.le_refl _, h.inn.C ps[j] (List.getElem_mem hjl')⟩, fun i u hu => ?_⟩
  cases i with
  | zero =>
    injection hu with hu
    subst hu
    rw [Nat.add_zero, show (Kd.slice te (Kd.int .i64)).sz = 1 from rfl, Nat.mul_one, add_plain]
    obtain ⟨g', cap', e4, hc⟩ := h.at_ j hjl'
    injection e4 with e5 _ _
    injection e5 with e5
    injection e5 with e5
    rw [e5]
    exact hc
  | succ i => simp at hu
end
/-! What is told of pairs, in plain words: s: to the one who knows the sum. -/
def wh (s : Bool) : ByteArray := if s = true then ⟨#[115]⟩ else ⟨#[112]⟩
def tv (s : Bool) (x : List Int) : Int := if s = true then rd x 0 + rd x 1 else rd x 0 * rd x 1
def cnt (s : Bool) (xs : List (List Int)) (v : Int) : Nat := xs.countP fun x => decide (tv s x = v)
/-- What the speaker is told, where the other one might know. -/
def might (s : Bool) (all xs : List (List Int)) (v : Int) : Bool := xs.any fun y => decide (cnt (!s) all (tv (!s) y) = 1) && decide (tv s y = v)
def keepSay (s : Bool) (what : Int) (xs : List (List Int)) (x : List Int) : Bool :=
  if what = 33 then !(might s xs xs (tv s x)) else decide (cnt s xs (tv s x) = 1) == decide (what = 43)
def say (s : Bool) (what : Int) (xs : List (List Int)) : List (List Int) := xs.filter (keepSay s what xs)
/-- Pairs of numbers from 1 to 40, at most 2000. -/
def Ok (ps : List PP) : Prop := ps.length ≤ 2000 ∧ ∀ p ∈ ps, (1 ≤ p.2.1 ∧ p.2.1 ≤ 40) ∧ (1 ≤ p.2.2 ∧ p.2.2 ≤ 40)
theorem Ok.filter {ps : List PP} (h : Ok ps) (q : PP → Bool) : Ok (ps.filter q) := ⟨Nat.le_trans (List.length_filter_le _ _) h.1, fun p hp => h.2 p (List.mem_filter.1 hp).1⟩
theorem vals_filter (ps : List PP) (q : List Int → Bool) : vals (ps.filter fun p => q (vl p)) = (vals ps).filter q := by
  unfold vals
  rw [List.filter_map]
  rfl
theorem tv_bd (s : Bool) (p : PP) (h : (1 ≤ p.2.1 ∧ p.2.1 ≤ 40) ∧ (1 ≤ p.2.2 ∧ p.2.2 ≤ 40)) : 1 ≤ tv s (vl p) ∧ tv s (vl p) ≤ 1600 := by
  obtain ⟨g, a, b⟩ := p
  obtain ⟨⟨h1, h2⟩, h3, h4⟩ := h
  dsimp only at h1 h2 h3 h4
  have e0 : rd (vl (g, a, b)) 0 = a := rfl
  have e1 : rd (vl (g, a, b)) 1 = b := rfl
  unfold tv
  rw [e0, e1]
  split
  · omega
  · have h5 : a * b ≤ 40 * 40 := Int.mul_le_mul h2 h4 (by omega) (by omega)
    have h6 : 1 * 1 ≤ a * b := Int.mul_le_mul h1 h3 (by omega) (by omega)
    omega
theorem cnt_le (s : Bool) (xs : List (List Int)) (v : Int) : cnt s xs v ≤ xs.length := List.countP_le_length
theorem vals_len (ps : List PP) : (vals ps).length = ps.length := by simp [vals]
theorem wf64 (x : Int) (h : -9223372036854775808 ≤ x ∧ x ≤ 9223372036854775807) : (Lit.int .i64 x).wf = true := WalkArith.wf_i64 h
end Go.Proofs.Ytlkbphhmahipdaa.Tk
