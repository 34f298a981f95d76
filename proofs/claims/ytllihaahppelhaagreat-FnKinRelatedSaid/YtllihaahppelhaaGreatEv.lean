/- Plain words for printed functions: what holds from some number of rounds on, test by test; what fits into 64 bits. No condition. -/
import Derived.Test.YtllihaahppelhaaGreatWWords
namespace Go.Proofs.YtllihaahppelhaaGreat.E
open Go.RowKit Go.Proofs.YtllihaahppelhaaGreatW.PrintWords
section
variable {α β : Type} {c : Prop} [Decidable c] {A B : Nat → Option α} {r : α}
theorem ifp (hc : c) (h : Ev A r) : Ev (fun k => if c then A k else B k) r := h.congr fun _ => if_pos hc
theorem ifn (hc : ¬ c) (h : Ev B r) : Ev (fun k => if c then A k else B k) r := h.congr fun _ => if_neg hc
/-- A call without rounds. -/
theorem call {f : Option β} {b : β} {F : Nat → β → Option α} (hf : f = some b) (h : Ev (fun n => F n b) r) : Ev (fun n => f.bind (F n)) r := by subst hf; exact h
theorem now : Ev (fun _ => some r) r := Ev.now r
theorem evEq {r' : α} (h : Ev A r) (e : r = r') : Ev A r' := e ▸ h
end
/-- Is it so? -/
noncomputable def dec (p : Prop) : Bool := @decide p (Classical.propDecidable p)
theorem dec_iff (p : Prop) : dec p = true ↔ p := @decide_eq_true_iff p (Classical.propDecidable p)
theorem dec_pos {p : Prop} (h : p) : dec p = true := (dec_iff p).2 h
theorem dec_neg {p : Prop} (h : ¬ p) : dec p = false := by
  cases e : dec p with
  | true => exact absurd ((dec_iff p).1 e) h
  | false => rfl
theorem dec_congr {p q : Prop} (h : p ↔ q) : dec p = dec q := by rw [propext h]
theorem w64 (x : Int) (h : x.natAbs ≤ 9223372036854775807) : wrap64 x = x := by unfold wrap64; omega
end Go.Proofs.YtllihaahppelhaaGreat.E
