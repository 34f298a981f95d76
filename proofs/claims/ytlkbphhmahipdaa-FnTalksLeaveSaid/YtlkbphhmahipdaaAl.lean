/- The numbers that just one element has; the keys of a map collected in whatever order, and sorted. No condition. -/
import Derived.Test.YtlkbphhmahipdaaTk
import Derived.Test.YtlkbphhmahipdaaMp
import Derived.Maps.RangeWalk
import Derived.Maps.Views
namespace Go.Proofs.Ytlkbphhmahipdaa.Al
open Go.RowKit Go.Maps Go.Proofs.YtlkbphhmahipdaaW.PrintWords
/-- The numbers below N that f counts once, in order. -/
def alnN (N : Nat) (f : Int → Nat) : List Int := ((List.range N).filter fun n : Nat => decide (f (n : Int) = 1)).map fun n : Nat => (n : Int)
/-- The numbers told to somebody that just one pair has. -/
def aln (s : Bool) (xs : List (List Int)) : List Int := alnN 1601 (Tk.cnt s xs)
theorem alnN_mem (N : Nat) (f : Int → Nat) (x : Int) : x ∈ alnN N f ↔ (0 ≤ x ∧ x < (N : Int)) ∧ f x = 1 := by
  unfold alnN
  rw [List.mem_map]
  constructor
  · rintro ⟨n, hn, rfl⟩
    obtain ⟨h1, h2⟩ := List.mem_filter.1 hn
    have := List.mem_range.1 h1
    exact ⟨⟨by omega, by omega⟩, of_decide_eq_true h2⟩
  · rintro ⟨⟨h1, h2⟩, h3⟩
    obtain ⟨n, rfl⟩ := Int.eq_ofNat_of_zero_le h1
    exact ⟨n, List.mem_filter.2 ⟨List.mem_range.2 (by omega), decide_eq_true h3⟩, rfl⟩
theorem alnN_sorted (N : Nat) (f : Int → Nat) : (alnN N f).Pairwise (· < ·) := by
  unfold alnN
  rw [List.pairwise_map]
  have h := (List.pairwise_lt_range (n := N)).filter (fun n : Nat => decide (f (n : Int) = 1))
  exact h.imp (fun h => by omega)
theorem alnN_len (N : Nat) (f : Int → Nat) : (alnN N f).length ≤ N := by
  unfold alnN
  rw [List.length_map]
  exact Nat.le_trans (List.length_filter_le _ _) (by simp)
theorem alnN_nil (N : Nat) : alnN N (fun _ => 0) = [] := by simp [alnN]
theorem aln_nil (s : Bool) : aln s [] = [] := by
  have : Tk.cnt s [] = fun _ => 0 := by funext v; simp [Tk.cnt]
  unfold aln
  rw [this]
  exact alnN_nil 1601
theorem alnN_yes (n : Nat) (f : Int → Nat) (h : f (n : Int) = 1) : alnN (n + 1) f = alnN n f ++ [(n : Int)] := by simp [alnN, List.range_succ, h]
theorem alnN_no (n : Nat) (f : Int → Nat) (h : ¬ f (n : Int) = 1) : alnN (n + 1) f = alnN n f := by simp [alnN, List.range_succ, h]
theorem cnt_in (s : Bool) (ps : List Tk.PP) (hok : Tk.Ok ps) (x : Int) (h : Tk.cnt s (Tk.vals ps) x = 1) : 0 ≤ x ∧ x < ((1601 : Nat) : Int) := by
  have h1 : 0 < Tk.cnt s (Tk.vals ps) x := by omega
  obtain ⟨y, hy, e⟩ := List.countP_pos_iff.1 h1
  obtain ⟨p, hp, rfl⟩ := List.mem_map.1 hy
  have := Tk.tv_bd s p (hok.2 p hp)
  have := of_decide_eq_true e
  omega
/-- Two rows that rise and have the same numbers are one. -/
theorem uniq : ∀ (a b : List Int), a.Pairwise (· < ·) → b.Pairwise (· < ·) → (∀ x, x ∈ a ↔ x ∈ b) → a = b
  | [], [], _, _, _ => rfl
  | [], y :: b, _, _, h => by have := (h y).2 (by simp); cases this
  | x :: a, [], _, _, h => by have := (h x).1 (by simp); cases this
  | x :: a, y :: b, ha, hb, h => by
    obtain ⟨ha1, ha2⟩ := List.pairwise_cons.1 ha
    obtain ⟨hb1, hb2⟩ := List.pairwise_cons.1 hb
    have e : x = y := by
      rcases List.mem_cons.1 ((h x).1 (by simp)) with e | h1
      · exact e
      · rcases List.mem_cons.1 ((h y).2 (by simp)) with e | h2
        · exact e.symm
        · have := hb1 x h1; have := ha1 y h2; omega
    subst e
    rw [uniq a b ha2 hb2 (fun z => ?_)]
    constructor
    · intro hz
      rcases List.mem_cons.1 ((h z).1 (List.mem_cons_of_mem _ hz)) with e | h1
      · have := ha1 z hz; omega
      · exact h1
    · intro hz
      rcases List.mem_cons.1 ((h z).2 (List.mem_cons_of_mem _ hz)) with e | h1
      · have := hb1 z hz; omega
      · exact h1
theorem sort_eq (N : Nat) (f : Int → Nat) (zs : List Int) (hn : zs.Nodup) (hm : ∀ x, x ∈ zs ↔ x ∈ alnN N f) : (zs.mergeSort fun x y => decide (x ≤ y)) = alnN N f := by
  have hp := List.mergeSort_perm zs (fun x y => decide (x ≤ y))
  refine uniq _ _ ?_ (alnN_sorted N f) (fun x => hp.mem_iff.trans (hm x))
  have h1 : (zs.mergeSort fun x y => decide (x ≤ y)).Pairwise (fun a b => decide (a ≤ b) = true) := List.pairwise_mergeSort (fun a b c h1 h2 => by simp at *; omega) (fun a b => by simp; omega) zs
  have h2 : (zs.mergeSort fun x y => decide (x ≤ y)).Nodup := hp.nodup_iff.2 hn
  exact (h1.and h2).imp (fun {a b} h => by have := of_decide_eq_true h.1; have := h.2; omega)
/-- The keys with the number 1 that are no longer to come. -/
def Coll (f : Int → Int) (left : Lit → Bool) (xs : List Int) : Prop :=
  xs.Nodup ∧ (∀ x ∈ xs, (f x = 1 ∧ (Lit.int .i64 x).wf = true) ∧ left (.int .i64 x) = false) ∧ ∀ x, (Lit.int .i64 x).wf = true → f x = 1 → left (.int .i64 x) = true ∨ x ∈ xs
theorem Coll.start {f : Int → Int} {D : DataW Unit} (h : ∀ x, (Lit.int .i64 x).wf = true → D.atKey (.int .i64 x) (.lit (.int .i64 0)) = .lit (.int .i64 (f x))) : Coll f (Maps.has D) [] := by
  refine ⟨by simp, by simp, fun x hx h1 => .inl ?_⟩
  cases hh : Maps.has D (.int .i64 x) with
  | true => rfl
  | false =>
    have := (h x hx).symm.trans (atKey_of_not_has hh _)
    injection this with this
    injection this with _ this
    omega
theorem same (z x : Int) : (Lit.int .i64 z).sameKey (.int .i64 x) = decide (z = x) := by simp [Lit.sameKey]
theorem Coll.hit {f : Int → Int} {left : Lit → Bool} {xs : List Int} (h : Coll f left xs) {x : Int} (hx : (Lit.int .i64 x).wf = true) (hl : left (.int .i64 x) = true) (hf : f x = 1) : Coll f (fun z => left z && !z.sameKey (.int .i64 x)) (xs ++ [x]) := by
  obtain ⟨h1, h2, h3⟩ := h
  have hnx : x ∉ xs := fun hm => by have := (h2 x hm).2; rw [hl] at this; cases this
  refine ⟨?_, fun y hy => ?_, fun y hy hfy => ?_⟩
  · rw [List.nodup_append]
    exact ⟨h1, by simp, fun a ha b hb e => by simp at hb; subst hb; subst e; exact hnx ha⟩
  · rcases List.mem_append.1 hy with hy | hy
    · exact ⟨(h2 y hy).1, by simp [(h2 y hy).2]⟩
    · obtain rfl := List.mem_singleton.1 hy
      exact ⟨⟨hf, hx⟩, by simp [same]⟩
  · by_cases e : y = x
    · exact .inr (by simp [e])
    · rcases h3 y hy hfy with h | h
      · exact .inl (by simp [same, h, e])
      · exact .inr (List.mem_append_left _ h)
theorem Coll.miss {f : Int → Int} {left : Lit → Bool} {xs : List Int} (h : Coll f left xs) {x : Int} (hf : ¬ f x = 1) : Coll f (fun z => left z && !z.sameKey (.int .i64 x)) xs := by
  obtain ⟨h1, h2, h3⟩ := h
  refine ⟨h1, fun y hy => ⟨(h2 y hy).1, by simp [(h2 y hy).2]⟩, fun y hy hfy => ?_⟩
  rcases h3 y hy hfy with h | h
  · have e : y ≠ x := fun e => hf (e ▸ hfy)
    exact .inl (by simp [same, h, e])
  · exact .inr h
theorem Coll.done {f : Int → Int} {left : Lit → Bool} {xs : List Int} (h : Coll f left xs) (hl : ∀ kl, left kl = false) : xs.Nodup ∧ ∀ x, x ∈ xs ↔ f x = 1 ∧ (Lit.int .i64 x).wf = true := by
  obtain ⟨h1, h2, h3⟩ := h
  refine ⟨h1, fun x => ⟨fun hx => (h2 x hx).1, fun ⟨h4, h5⟩ => ?_⟩⟩
  rcases h3 x h5 h4 with h | h
  · rw [hl] at h; cases h
  · exact h
theorem done_mem (s : Bool) (ps : List Tk.PP) (hok : Tk.Ok ps) (xs : List Int) (h : ∀ x, x ∈ xs ↔ (Tk.cnt s (Tk.vals ps) x : Int) = 1 ∧ (Lit.int .i64 x).wf = true) (x : Int) : x ∈ xs ↔ x ∈ alnN 1601 (Tk.cnt s (Tk.vals ps)) := by
  rw [h x, alnN_mem]
  constructor
  · rintro ⟨h1, _⟩
    have h2 : Tk.cnt s (Tk.vals ps) x = 1 := by omega
    exact ⟨cnt_in s ps hok x h2, h2⟩
  · rintro ⟨⟨h1, h2⟩, h3⟩
    exact ⟨by omega, Tk.wf64 x (by omega)⟩
end Go.Proofs.Ytlkbphhmahipdaa.Al
