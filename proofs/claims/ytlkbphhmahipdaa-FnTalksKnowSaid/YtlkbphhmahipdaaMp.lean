/- Maps from whole numbers that a call makes, told as plain functions: what a look-up tells, what a store leaves. No condition. -/
import Derived.Maps.OwnOps
import Derived.Maps.Views
import Derived.Test.YtlkbphhmahipdaaProg
import Derived.Test.YtlkbphhmahipdaaWWords
namespace Go.Proofs.Ytlkbphhmahipdaa.Mp
open Go.RowKit Go.Maps Go.Proofs.YtlkbphhmahipdaaW.PrintWords
/-- Block B is a map of at most n entries that tells f, 0 where there is nothing. -/
def MapI (P : Program) (tk te : TypeId) (w : World) (B n : Nat) (f : Int → Int) : Prop :=
  ∃ D : DataW Unit, w.ownsMap P tk (plainElem P te) B n D ∧ IsMap D ∧ ∀ x, (Lit.int .i64 x).wf = true → D.atKey (.int .i64 x) (.lit (.int .i64 0)) = .lit (.int .i64 (f x))
/-- .. of truth values, false where there is nothing. -/
def MapB (P : Program) (tk te : TypeId) (w : World) (B n : Nat) (f : Int → Bool) : Prop :=
  ∃ D : DataW Unit, w.ownsMap P tk (plainElem P te) B n D ∧ IsMap D ∧ ∀ x, (Lit.int .i64 x).wf = true → D.atKey (.int .i64 x) (.lit (.bool false)) = .lit (.bool (f x))
section
variable {P : Program} {tk te t : TypeId} {w w1 : World} {B n : Nat}
theorem isKey (x : Int) : WideAt.IsKeyLit (.int .i64 x) := by first | trivial | (simp [WideAt.IsKeyLit])
theorem MapI.made (P : Program) (tk te : TypeId) (w : World) : MapI P tk te (w.alloc (.map #[] 0)) w.heap.size 0 (fun _ => 0) :=
  ⟨.map [], World.ownsMap_made _ _ _ _, isMap_empty, fun _ _ => rfl⟩
theorem MapB.made (P : Program) (tk te : TypeId) (w : World) : MapB P tk te (w.alloc (.map #[] 0)) w.heap.size 0 (fun _ => false) :=
  ⟨.map [], World.ownsMap_made _ _ _ _, isMap_empty, fun _ _ => rfl⟩
theorem MapI.lt {f : Int → Int} (h : MapI P tk te w B n f) : B < w.heap.size := by obtain ⟨D, h, _⟩ := h; exact h.lt
theorem MapB.lt {f : Int → Bool} (h : MapB P tk te w B n f) : B < w.heap.size := by obtain ⟨D, h, _⟩ := h; exact h.lt
theorem MapI.kept {f : Int → Int} {row : Option Nat} (h : MapI P tk te w B n f) (hg : w.grownBy w1 row) (hne : some B ≠ row) : MapI P tk te w1 B n f := by
  obtain ⟨D, h1, h2⟩ := h; exact ⟨D, h1.kept hg hne, h2⟩
theorem MapB.kept {f : Int → Bool} {row : Option Nat} (h : MapB P tk te w B n f) (hg : w.grownBy w1 row) (hne : some B ≠ row) : MapB P tk te w1 B n f := by
  obtain ⟨D, h1, h2⟩ := h; exact ⟨D, h1.kept hg hne, h2⟩
theorem MapI.below {f : Int → Int} (h : MapI P tk te w B n f) (hb : Below w.heap.size w w1) : MapI P tk te w1 B n f :=
  h.kept (row := none) ⟨hb.os, hb.tape, hb.output, hb.size, fun k hk _ => hb.block k hk⟩ (by simp)
theorem MapB.below {f : Int → Bool} (h : MapB P tk te w B n f) (hb : Below w.heap.size w w1) : MapB P tk te w1 B n f :=
  h.kept (row := none) ⟨hb.os, hb.tape, hb.output, hb.size, fun k hk _ => hb.block k hk⟩ (by simp)
theorem MapB.mono_n {f : Int → Bool} (h : MapB P tk te w B n f) {n' : Nat} (hn : n ≤ n') : MapB P tk te w B n' f := by obtain ⟨D, h1, h2⟩ := h; exact ⟨D, h1.mono hn, h2⟩
theorem MapI.look {f : Int → Int} (h : MapI P tk te w B n f) (hk : P.underlying tk = some (.int .i64)) (he : P.underlying te = some (.int .i64)) (ht : P.underlying t = some (.map tk te)) (hz : ∀ w, (zeroValue te).run P w = .ok (.int .i64 0) w) (x : Int) (hx : (Lit.int .i64 x).wf = true) :
    (Instr.lookup t (.map (some B)) (.int .i64 x) false).run P w = .ok (.int .i64 (f x)) w := by
  obtain ⟨D, h1, _, h2⟩ := h
  obtain ⟨c, hrun, hat, _⟩ := h1.lookup_int (int_keyed hk) ht he (hz w) (keyOf_int_mk hk hx)
  rw [h2 x hx] at hat
  injection hat with hat
  injection hat with _ hat
  rw [hat]
  exact hrun
theorem MapB.look {f : Int → Bool} (h : MapB P tk te w B n f) (hk : P.underlying tk = some (.int .i64)) (he : P.underlying te = some .bool) (ht : P.underlying t = some (.map tk te)) (hz : ∀ w, (zeroValue te).run P w = .ok (.bool false) w) (x : Int) (hx : (Lit.int .i64 x).wf = true) :
    (Instr.lookup t (.map (some B)) (.int .i64 x) false).run P w = .ok (.bool (f x)) w := by
  obtain ⟨D, h1, _, h2⟩ := h
  obtain ⟨v, ps, hrun, hv⟩ := h1.lookup (int_keyed hk) ht (hz w) (plainElem_bool he false) (keyOf_int_mk hk hx)
  rw [h2 x hx] at hv
  have : v = .bool (f x) := by
    cases v with
    | bool b =>
      rw [plainElem_bool he] at hv
      injection hv with hv
      injection hv with hv _
      injection hv with hv
      injection hv with hv
      rw [hv]
    | _ => simp [plainElem, he] at hv
  rw [this] at hrun
  exact hrun
theorem MapI.put {f : Int → Int} (h : MapI P tk te w B n f) (hk : P.underlying tk = some (.int .i64)) (he : P.underlying te = some (.int .i64)) (ht : P.underlying t = some (.map tk te)) (hn : n < maxLen) (x v : Int) (hx : (Lit.int .i64 x).wf = true) (hv : (Lit.int .i64 v).wf = true) :
    ∃ w', (Instr.mapUpdate t (.map (some B)) (.int .i64 x) (.int .i64 v)).run P w = .ok () w' ∧ MapI P tk te w' B (n + 1) (fun y => if y = x then v else f y) ∧ w.grownBy w' (some B) := by
  obtain ⟨D, h1, h2, h3⟩ := h
  obtain ⟨w', hrun, h4, h5⟩ := h1.update (int_keyed hk) ht hn (keyOf_int_mk hk hx) (plainElem_int he hv)
  refine ⟨w', hrun, ⟨_, h4, h2.put _ _, fun y hy => ?_⟩, h5⟩
  dsimp only
  by_cases e : y = x
  · subst e
    rw [if_pos rfl]
    exact atKey_put_same h2 (isKey y) _ _
  · rw [if_neg e, ← h3 y hy]
    exact atKey_put_other (fun h => e (by injection h)) _ _
theorem MapB.put {f : Int → Bool} (h : MapB P tk te w B n f) (hk : P.underlying tk = some (.int .i64)) (he : P.underlying te = some .bool) (ht : P.underlying t = some (.map tk te)) (hn : n < maxLen) (x : Int) (v : Bool) (hx : (Lit.int .i64 x).wf = true) :
    ∃ w', (Instr.mapUpdate t (.map (some B)) (.int .i64 x) (.bool v)).run P w = .ok () w' ∧ MapB P tk te w' B (n + 1) (fun y => if y = x then v else f y) ∧ w.grownBy w' (some B) := by
  obtain ⟨D, h1, h2, h3⟩ := h
  obtain ⟨w', hrun, h4, h5⟩ := h1.update (int_keyed hk) ht hn (keyOf_int_mk hk hx) (plainElem_bool he v)
  refine ⟨w', hrun, ⟨_, h4, h2.put _ _, fun y hy => ?_⟩, h5⟩
  dsimp only
  by_cases e : y = x
  · subst e
    rw [if_pos rfl]
    exact atKey_put_same h2 (isKey y) _ _
  · rw [if_neg e, ← h3 y hy]
    exact atKey_put_other (fun h => e (by injection h)) _ _
end
end Go.Proofs.Ytlkbphhmahipdaa.Mp
