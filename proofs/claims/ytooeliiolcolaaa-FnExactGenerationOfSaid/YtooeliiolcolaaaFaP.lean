/- The parents of one of a family, for the reference. Condition: one of a family. -/
import Derived.Test.YtooeliiolcolaaaPx2
import Derived.Test.YtooeliiolcolaaaFaB
namespace Go.Proofs.Ytooeliiolcolaaa.Pr
open Go.RowKit Go.Proofs.Ytooeliiolcolaaa.P Go.Proofs.YtooeliiolcolaaaW.PrintWords Go.Proofs.Ytooeliiolcolaaa.E
/-- The parents of somebody. -/
abbrev pp (l : List Kn) (i : Int) : List Int := ps (rdK l i)
theorem faParentsI (l : List Kn) (i : Int) (h : 0 ≤ i ∧ i < (l.length : Int)) : Ev (fun k => spec_faParents.f k l i) (pp l i) := by
  obtain ⟨h2, e2⟩ := rdK_int l i h.1 h.2
  have := faParents l i.toNat h2
  rw [Int.toNat_of_nonneg h.1] at this
  show Ev _ (ps (rd_T36 l i))
  rw [e2]
  exact this
theorem Fam_pp (l : List Kn) (hf : Fam l) (i p : Int) (hi : 0 ≤ i ∧ i < (l.length : Int)) (hp : p ∈ pp l i) : 0 ≤ p ∧ p < i := by
  obtain ⟨h2, e2⟩ := rdK_int l i hi.1 hi.2
  change p ∈ ps (rd_T36 l i) at hp
  rw [e2] at hp
  have h3 := hf.2 _ h2
  have h4 := (mem_ps _ p).1 hp
  unfold Fits at h3
  omega
end Go.Proofs.Ytooeliiolcolaaa.Pr
