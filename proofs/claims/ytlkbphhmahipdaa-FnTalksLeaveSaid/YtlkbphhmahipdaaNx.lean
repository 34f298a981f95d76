/- The six statements, and those behind which some pair would be left. No condition. -/
import Derived.Test.YtlkbphhmahipdaaTk
namespace Go.Proofs.Ytlkbphhmahipdaa.Nx
open Go.RowKit Go.Proofs.YtlkbphhmahipdaaW.PrintWords
def stm (k : Nat) : ByteArray := if k = 0 then ⟨#[115, 45]⟩ else if k = 1 then ⟨#[115, 43]⟩ else if k = 2 then ⟨#[115, 33]⟩ else if k = 3 then ⟨#[112, 45]⟩ else if k = 4 then ⟨#[112, 43]⟩ else ⟨#[112, 33]⟩
def sp (k : Nat) : Bool := decide (k < 3)
def wt (k : Nat) : Int := if k = 0 ∨ k = 3 then 45 else if k = 1 ∨ k = 4 then 43 else 33
theorem wt_in (k : Nat) : wt k = 45 ∨ wt k = 43 ∨ wt k = 33 := by
  unfold wt
  split
  · exact .inl rfl
  · split
    · exact .inr (.inl rfl)
    · exact .inr (.inr rfl)
theorem parts (k : Nat) (hk : k < 6) : (stm k).size = 2 ∧ (stm k).extract 0 1 = Tk.wh (sp k) ∧ bt (stm k) 1 = wt k := by
  match k, hk with
  | 0, _ => exact ⟨rfl, rfl, rfl⟩
  | 1, _ => exact ⟨rfl, rfl, rfl⟩
  | 2, _ => exact ⟨rfl, rfl, rfl⟩
  | 3, _ => exact ⟨rfl, rfl, rfl⟩
  | 4, _ => exact ⟨rfl, rfl, rfl⟩
  | 5, _ => exact ⟨rfl, rfl, rfl⟩
/-- Those of the first k statements behind which some pair would be left. -/
def next (rows : List (List Int)) (k : Nat) : List ByteArray := ((List.range k).filter fun j => decide (0 < (Tk.say (sp j) (wt j) rows).length)).map stm
theorem next_yes (rows : List (List Int)) (k : Nat) (h : 0 < (Tk.say (sp k) (wt k) rows).length) : next rows (k + 1) = next rows k ++ [stm k] := by simp only [next, List.range_succ, List.filter_append, List.filter_cons, decide_eq_true h, if_true, List.filter_nil, List.map_append, List.map_cons, List.map_nil]
theorem next_no (rows : List (List Int)) (k : Nat) (h : ¬ 0 < (Tk.say (sp k) (wt k) rows).length) : next rows (k + 1) = next rows k := by simp only [next, List.range_succ, List.filter_append, List.filter_cons, decide_eq_false h, List.filter_nil, List.append_nil, Bool.false_eq_true, if_false]
theorem next_len (rows : List (List Int)) (k : Nat) : (next rows k).length ≤ k := by
  unfold next
  rw [List.length_map]
  exact Nat.le_trans (List.length_filter_le _ _) (by simp)
theorem six_cells (W : World) (te : TypeId) (j : Nat) (hj : j < 6) : (W.alloc (.cells #[.string ⟨#[115, 45]⟩, .string ⟨#[115, 43]⟩, .string ⟨#[115, 33]⟩, .string ⟨#[112, 45]⟩, .string ⟨#[112, 43]⟩, .string ⟨#[112, 33]⟩] te)).cell? ⟨W.heap.size, j, none⟩ = some (.string (stm j)) := by
  match j, hj with
  | 0, _ => simp [stm]
  | 1, _ => simp [stm]
  | 2, _ => simp [stm]
  | 3, _ => simp [stm]
  | 4, _ => simp [stm]
  | 5, _ => simp [stm]
theorem cell_grown {w w1 : World} {row : Option Nat} (hg : w.grownBy w1 row) {b j : Nat} {v : Value} (hc : w.cell? ⟨b, j, none⟩ = some v) (hne : some b ≠ row) : w1.cell? ⟨b, j, none⟩ = some v := by
  have hlt := World.block_lt_of_cell? w _ hc
  have h := hg.block b hlt hne
  unfold World.cell? at hc ⊢
  dsimp only at hc ⊢
  rw [h]
  exact hc
end Go.Proofs.Ytlkbphhmahipdaa.Nx
