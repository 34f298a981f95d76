/- Plain lemmas: an argument that is a slice of structs, all of whose fields are whole numbers of one type, is opened to its elements' numbers; what its cells say as the print's words say it. No condition. -/
import Derived.Deep.Slices
import Derived.Deep.Fields
import Derived.ChangeSame
import Derived.SizedLaws
import Derived.Test.YtllihaahppelhaaDoorWWords
namespace Go.Proofs.YtllihaahppelhaaDoor.RowsOf
open Go.ChangeShapes Go.WideShapes Go.Deep Go.RowKit Go.Proofs.YtllihaahppelhaaDoorW.PrintWords

section
variable {H : Type} {enc : TypeId × Value → H} {P : Program} {w : World} {base : Nat} {spare : Nat → Bool} {held : Bool}
theorem open_slice_fields {t e : TypeId} {fs : Array Field} {fuel : Nat} {cs : List Value} {x : DataW H × List MemPlace} (ht : P.underlying t = some (.slice e)) (he : P.underlying e = some (.struct fs))
    (hone : oneCellFields P fs = true) (hC : P.cellsOf e = fs.size) (h : DataW.trod enc P w base spare held fuel t cs = some x) :
    (cs = [.slice none 0 0] ∧ x = (.nil, [])) ∨
    ∃ (a : Addr) (len cap m : Nat) (D : Nat → DataW H) (Pl : Nat → List MemPlace), cs = [.slice (some a) len cap] ∧ base ≤ a.block ∧ len ≤ cap ∧ cap ≤ maxLen ∧ m = (if spare a.block then cap else len) ∧
      x = (.slice ((List.range len).map D) ((List.range (m - len)).map fun j => D (len + j)), MemPlace.row a (m * fs.size) ++ (List.range m).flatMap Pl) ∧
      ∀ i, i < m → ∃ (ys : List (DataW H × List MemPlace)) (n : Nat), D i = .agg (ys.map (·.1)) ∧ Pl i = ys.flatMap (·.2) ∧ ys.length = fs.size ∧
        ∀ (j : Nat) (f : Field), fs[j]? = some f → ∃ (v : Value) (y : DataW H × List MemPlace), w.cell? (a.add (i * fs.size + j)) = some v ∧ ys[j]? = some y ∧ DataW.trod enc P w base spare held n f.type [v] = some y := by
  rcases open_slice ht h with h0 | ⟨a, len, cap, m, n, D, Pl, hcs, hb, hl, hm, hmm, hx, hi⟩
  · exact .inl h0
  · refine .inr ⟨a, len, cap, m, D, Pl, hcs, hb, hl, hm, hmm, by rw [hC] at hx; exact hx, fun i him => ?_⟩
    obtain ⟨cs', hc, ht'⟩ := hi i him
    rw [hC] at hc
    obtain ⟨ys, n', hn', hy, hlen, hyl, hf⟩ := DataW.trod_struct he ht'
    obtain ⟨_, hcl, hat⟩ := World.cells?_some hc
    simp only [Prod.mk.injEq] at hy
    refine ⟨ys, n', hy.1, hy.2, hyl, fun j f hj => ?_⟩
    obtain ⟨ho, hk⟩ := hone_of hone j f hj
    have hjl : j < fs.size := (Array.getElem?_eq_some_iff.1 hj).1
    have hcell := hat j hjl
    have hv : cs'[j]? = some (cs'[j]'(by omega)) := List.getElem?_eq_getElem (by omega)
    have h1 := hf j f hj
    rw [ho, hk] at h1
    have hone' : (cs'.drop j).take 1 = [cs'[j]'(by omega)] := by
      rw [List.drop_eq_getElem_cons (by omega)]
      rfl
    rw [hone'] at h1
    have hys : ys[j]? = some (ys[j]'(by omega)) := List.getElem?_eq_getElem (by omega)
    refine ⟨_, _, ?_, hys, h1.trans hys⟩
    rw [← Go.Deep.add_add, hcell, hv]

theorem open_int_fields {t e T : TypeId} {fs : Array Field} {k : IntKind} {a : Option Addr} {len cap : Nat} {d : DataW H} {ps : List MemPlace} {ts : List TypeId} {ds : List (DataW H)} {j : Nat} {B : Nat}
    (hsz : (DataW.weightsEach P ts ds).all (· ≤ reachBytes) = true) (htj : ts[j]? = some t) (hdj : ds[j]? = some d) (ht : P.underlying t = some (.slice e)) (he : P.underlying e = some (.struct fs))
    (hone : oneCellFields P fs = true) (hC : P.cellsOf e = fs.size) (hT : P.underlying T = some (.int k)) (hft : fs.toList.all (fun f => f.type == T) = true) (hB : P.bytesOf e = B)
    (h : DataW.Trod enc P w base spare held t (.slice a len cap) d ps) :
    ∃ g : Nat → Nat → Int, len ≤ maxLen ∧ len ≤ cap ∧ len * B ≤ 140737488351232 ∧ (0 < len → ∃ ad, a = some ad ∧ ∀ i, i < len → ∀ j, j < fs.size → w.cell? (ad.add (i * fs.size + j)) = some (.int k (g i j))) ∧
      ∀ i, i < len → ∀ j, j < fs.size → (Lit.int k (g i j)).wf = true := by
  obtain ⟨fuel, hf⟩ := h
  rcases open_slice_fields ht he hone hC hf with ⟨hcs, _⟩ | ⟨x, l, c, m, D, Pl, hcs, _, hl, hm, hmm, hx, hi⟩
  · simp [Value.cells] at hcs
    obtain ⟨rfl, rfl, rfl⟩ := hcs
    exact ⟨fun _ _ => 0, by simp, by omega, by omega, fun h => absurd h (by omega), fun i hi => absurd hi (by omega)⟩
  · simp [Value.cells] at hcs
    obtain ⟨rfl, rfl, rfl⟩ := hcs
    obtain ⟨hx, _⟩ := Prod.mk.inj hx
    have hlm : len ≤ m := by rw [hmm]; split <;> omega
    have key : ∀ i, i < len → ∀ j, j < fs.size → ∃ n : Int, w.cell? (x.add (i * fs.size + j)) = some (.int k n) ∧ (Lit.int k n).wf = true := by
      intro i hil j hj
      obtain ⟨ys, n, _, _, _, hfs⟩ := hi i (by omega)
      obtain ⟨v, y, hc, _, htr⟩ := hfs j fs[j] (by simp [hj])
      have hTj : fs[j].type = T := by
        have := List.all_eq_true.1 hft fs[j] (by simp)
        simpa using this
      rw [hTj] at htr
      obtain ⟨n', hn, _, hw⟩ := DataW.trod_int hT htr
      obtain rfl : v = .int k n' := by simpa using hn
      exact ⟨n', hc, hw⟩
    have key' : ∀ i j, ∃ n : Int, i < len → j < fs.size → w.cell? (x.add (i * fs.size + j)) = some (.int k n) ∧ (Lit.int k n).wf = true := by
      intro i j
      by_cases hil : i < len
      · by_cases hj : j < fs.size
        · obtain ⟨n, hn⟩ := key i hil j hj
          exact ⟨n, fun _ _ => hn⟩
        · exact ⟨0, fun _ h => absurd h hj⟩
      · exact ⟨0, fun h => absurd h hil⟩
    refine ⟨fun i j => Classical.choose (key' i j), Nat.le_trans hl hm, hl, ?_, fun _ => ⟨x, rfl, fun i hi j hj => (Classical.choose_spec (key' i j) hi hj).1⟩, fun i hi j hj => (Classical.choose_spec (key' i j) hi hj).2⟩
    subst hx
    have z := sized_slice hsz htj hdj ht
    rw [hB] at z
    simp only [List.length_map, List.length_range] at z
    exact Nat.le_trans (Nat.mul_le_mul_right _ (by omega)) z
end

/-- A row that is read, out of its cells. -/
theorem C_of_cells {α : Type} {d : Kd α} {W : World} {A : Option Addr} {n : Nat} (x : Nat → α) (cs : Nat → List Value) (hn : n ≤ maxLen) (hk : ∀ i, i < n → d.K W (x i) (cs i))
    (hc : 0 < n → ∃ ad, A = some ad ∧ ∀ i, i < n → ∀ j u, (cs i)[j]? = some u → W.cell? (ad.add (i * d.sz + j)) = some u) : d.C W A n ((List.range n).map x) := by
  refine ⟨by simp, by unfold maxLen at hn; omega, fun hp => ?_⟩
  obtain ⟨ad, rfl, h⟩ := hc hp
  refine ⟨ad, rfl, fun j p hj => ?_⟩
  have hjn : j < n := by
    have := (List.getElem?_eq_some_iff.1 hj).1
    simpa using this
  have hp : p = x j := by
    simp [hjn] at hj
    exact hj.symm
  subst hp
  exact ⟨cs j, d.K_len (hk j hjn), hk j hjn, h j hjn⟩
end Go.Proofs.YtllihaahppelhaaDoor.RowsOf
