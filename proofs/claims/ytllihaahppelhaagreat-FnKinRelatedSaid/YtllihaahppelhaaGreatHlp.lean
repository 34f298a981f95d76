/- Plain words for the contracts that were proved by hand: the place of the first element of which something is so. No condition. -/
import Derived.Test.YtllihaahppelhaaGreatWWords
namespace Go.Proofs.YtllihaahppelhaaGreat.Hlp
open Go.RowKit Go.Proofs.YtllihaahppelhaaGreatW.PrintWords
/-- The place of the first element of which p holds, -1 if there is none. -/
def fidx {α : Type} (p : α → Bool) (l : List α) : Int := match l.findIdx? p with
  | some i => (i : Int)
  | none => -1
theorem fidx_hit {α : Type} (p : α → Bool) (l : List α) (k : Nat) (hk : k < l.length) (h : p l[k] = true) (hb : ∀ j, (hj : j < k) → p (l[j]'(by omega)) = false) : fidx p l = (k : Int) := by
  unfold fidx
  have : l.findIdx? p = some k := by
    rw [List.findIdx?_eq_some_iff_getElem]
    exact ⟨hk, h, fun j hj => by simp [hb j hj]⟩
  rw [this]
theorem fidx_miss {α : Type} (p : α → Bool) (l : List α) (hb : ∀ j, (hj : j < l.length) → p l[j] = false) : fidx p l = -1 := by
  unfold fidx
  have : l.findIdx? p = none := by
    rw [List.findIdx?_eq_none_iff]
    intro x hx
    obtain ⟨j, hj, rfl⟩ := List.mem_iff_getElem.1 hx
    exact hb j hj
  rw [this]
theorem fidx_any {α : Type} (p : α → Bool) (l : List α) : decide (0 ≤ fidx p l) = l.any p := by
  unfold fidx
  cases h : l.findIdx? p with
  | none =>
    have := List.findIdx?_eq_none_iff.1 h
    have h2 : l.any p = false := by rw [List.any_eq_false]; intro x hx; simp [this x hx]
    rw [h2]; decide
  | some i =>
    obtain ⟨hi, hp, _⟩ := List.findIdx?_eq_some_iff_getElem.1 h
    have h2 : l.any p = true := List.any_eq_true.2 ⟨l[i], List.getElem_mem hi, hp⟩
    rw [h2]; simp
theorem fidx_bd {α : Type} (p : α → Bool) (l : List α) : -1 ≤ fidx p l ∧ fidx p l < (l.length : Int) := by
  unfold fidx
  cases h : l.findIdx? p with
  | none => exact ⟨by simp, by show (-1 : Int) < (l.length : Int); omega⟩
  | some i =>
    obtain ⟨hi, _, _⟩ := List.findIdx?_eq_some_iff_getElem.1 h
    exact ⟨by show (-1 : Int) ≤ (i : Int); omega, by show (i : Int) < (l.length : Int); omega⟩
/-- A cell of a row of whole numbers. -/
theorem int_at {w : World} {k : IntKind} {A : Option Addr} {xs : List Int} (h : Kd.C (Kd.int k) w A xs.length xs) (i : Nat) (hi : i < xs.length) : ∃ ad, A = some ad ∧ w.cell? (ad.add i) = some (.int k xs[i]) := by
  have hr : ReadsInt w k A xs.length xs := Kd.reads_of_C (enc := Value.int k) (d := (0 : Int)) (h1 := fun _ => rfl) h
  obtain ⟨ad, e, hc⟩ := hr.2.2 (by omega)
  refine ⟨ad, e, ?_⟩
  rw [hc i hi, List.getD_eq_getElem?_getD, List.getElem?_eq_getElem hi]
  rfl
/-- A row of the call's own, cut from behind. -/
theorem own_take {w : World} {base g n cap m : Nat} {e : TypeId} {xs : List Value} (h : w.ownsRow base e 1 (.slice (some ⟨g, 0, none⟩) n cap) n xs) (hm : m ≤ n) : w.ownsRow base e 1 (.slice (some ⟨g, 0, none⟩) m cap) m (xs.take m) := by
  obtain ⟨hl, h2⟩ := h
  rcases h2 with ⟨h3, _⟩ | ⟨g', cap', cur, h3, hb, hh, h4, h5, h6, h7⟩
  · cases h3
  · injection h3 with h3 h8 h9
    injection h3 with h3
    injection h3 with h3
    subst h3 h9
    refine ⟨by rw [List.length_take]; omega, .inr ⟨g, cap, cur, rfl, hb, hh, by omega, h5, h6, ?_⟩⟩
    rw [← h7, List.take_take]
    congr 1
    omega
/-- Several cells of a row of the call's own stored. -/
theorem own_setCells {base g n cap : Nat} {e : TypeId} : ∀ (vs : List Value) (o : Nat) (w : World) (xs : List Value), w.ownsRow base e 1 (.slice (some ⟨g, 0, none⟩) n cap) n xs →
    (w.setCells g o vs).ownsRow base e 1 (.slice (some ⟨g, 0, none⟩) n cap) n ((List.range vs.length).foldl (fun ys j => ys.set (o + j) (vs.getD j undef)) xs) ∧ w.grownBy (w.setCells g o vs) (some g)
  | [], o, w, xs, h => ⟨h, World.grownBy.refl w _⟩
  | v :: vs, o, w, xs, h => by
    have h1 := h.stored o v
    have h2 := own_setCells vs (o + 1) _ _ h1.1
    refine ⟨?_, World.grownBy.trans h1.2 h2.2⟩
    have e : (List.range (v :: vs).length).foldl (fun ys j => ys.set (o + j) ((v :: vs).getD j undef)) xs = (List.range vs.length).foldl (fun ys j => ys.set (o + 1 + j) (vs.getD j undef)) (xs.set o v) := by
      rw [List.length_cons, List.range_succ_eq_map, List.foldl_cons, List.foldl_map]
      simp [Nat.add_assoc, Nat.add_comm 1]
    rw [e]
    exact h2.1
theorem take_foldl_set (vs : List Value) (o : Nat) (n : Nat) : ∀ (xs : List Value), ((List.range n).foldl (fun ys j => ys.set (o + j) (vs.getD j undef)) xs).take o = xs.take o := by
  induction n with
  | zero => intro xs; rfl
  | succ n ih =>
    intro xs
    rw [List.range_succ, List.foldl_append, List.foldl_cons, List.foldl_nil, List.take_set_of_le (by omega), ih]
/-- A whole row whose tail is struck. -/
theorem own_cleared {base g n cap o : Nat} {e : TypeId} {w : World} {xs : List Value} (vs : List Value) (h : w.ownsRow base e 1 (.slice (some ⟨g, 0, none⟩) n cap) n xs) (ho : o ≤ n) :
    (w.setCells g o vs).ownsRow base e 1 (.slice (some ⟨g, 0, none⟩) o cap) o (xs.take o) ∧ w.grownBy (w.setCells g o vs) (some g) := by
  have h1 := own_setCells vs o w xs h
  have h2 := own_take h1.1 ho
  rw [take_foldl_set] at h2
  exact ⟨h2, h1.2⟩
theorem C_len {α : Type} {d : Kd α} {w : World} {A : Option Addr} {n : Nat} {xs : List α} (h : d.C w A n xs) : n ≤ 9223372036854775807 := h.2.1
end Go.Proofs.YtllihaahppelhaaGreat.Hlp
