/- A row of pairs, each in a block of its own, is a row of rows that no two elements share. No condition. -/
import Derived.Test.YtlkbphhmahipdaaTk
namespace Go.Proofs.Ytlkbphhmahipdaa.Tk
open Go.RowKit Go.Proofs.YtlkbphhmahipdaaW.PrintWords
section
variable {te ts : TypeId} {w W : World} {lo base b0 g n cap : Nat} {ps : List PP} {v : Value}
theorem Inn.own (h : Inn te w lo ps) (p : PP) (hp : p ∈ ps) (hb : b0 ≤ lo) : w.ownsRow b0 te 1 (cv p) 2 (nums .i64 (vl p)) := by
  obtain ⟨h1, h2⟩ := h p hp
  exact ⟨rfl, .inr ⟨p.1, 2, _, rfl, Nat.le_trans hb h1, h2, Nat.le_refl _, by unfold maxLen; omega, rfl, rfl⟩⟩
theorem Has.S (h : Has ts te w base lo v ps) (hb : b0 ≤ base) (hl : b0 ≤ lo) : Kd.S (Kd.slice te (Kd.int .i64)) ts w b0 (fun _ => True) v (vals ps) := by
  obtain ⟨f, hf⟩ := Kd.reps_tag (d := Kd.slice te (Kd.int .i64)) (w := w) (base := b0) (ok := fun k => True ∧ some k ≠ v.ownBlock) (xs := vals ps) (inner := ps.map cv)
    (fun j k => ∃ p, ps[j]? = some p ∧ p.1 = k)
    (by
      rintro i j k ⟨p, hp, rfl⟩ ⟨q, hq, e⟩
      obtain ⟨hi, rfl⟩ := List.getElem?_eq_some_iff.1 hp
      obtain ⟨hj, rfl⟩ := List.getElem?_eq_some_iff.1 hq
      have h1 := List.pairwise_iff_getElem.1 h.nod
      rcases Nat.lt_trichotomy i j with h2 | h2 | h2
      · exact (h1 i j (by simpa using hi) (by simpa using hj) h2 (by rw [List.getElem_map, List.getElem_map]; exact e.symm)).elim
      · exact h2
      · exact (h1 j i (by simpa using hj) (by simpa using hi) h2 (by rw [List.getElem_map, List.getElem_map]; exact e)).elim)
    (by
      rintro j k ⟨p, hp, rfl⟩
      exact ⟨trivial, fun e => h.ap p (List.mem_of_getElem? hp) e.symm⟩)
    (by rw [List.length_map, show (vals ps).length = ps.length from vals_len ps]; exact (Nat.mul_one _).symm)
    (by
      intro j x hx
      unfold vals at hx
      rw [List.getElem?_map] at hx
      obtain ⟨p, hp, rfl⟩ := Option.map_eq_some_iff.1 hx
      obtain ⟨hi, e⟩ := List.getElem?_eq_some_iff.1 hp
      have hm : p ∈ ps := List.mem_of_getElem? hp
      refine ⟨cv p, ?_, Kd.R_of_own (h.inn.own p hm hl) (fun k hk => ⟨p, hp, ?_⟩)⟩
      · show ((ps.map cv).drop (j * 1)).take 1 = [cv p]
        rw [Nat.mul_one, List.drop_eq_getElem_cons (by simpa using hi)]
        simp [e]
      · simpa [cv, Value.ownBlock] using hk)
  refine ⟨f, fun _ _ => trivial, ps.map cv, ?_, hf⟩
  have hl2 : (vals ps).zipIdx.length = ps.length := by rw [List.length_zipIdx]; exact vals_len ps
  rw [hl2]
  exact (h.lower hb (Nat.le_refl lo)).row
end
end Go.Proofs.Ytlkbphhmahipdaa.Tk
