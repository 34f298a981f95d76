/- Maps from pairs of whole numbers to whole numbers that a call makes: what they hold, in the order in which it was put in. No condition. -/
import Derived.Maps.OwnOps
import Derived.Maps.OwnSet
import Derived.WideKeyPair
import Derived.Test.YtlkbphhmahipdaaWWords
import Derived.Test.YtlkbphhmahipdaaKn
namespace Go.Proofs.Ytlkbphhmahipdaa.Km
open Go.RowKit Go.Maps
open Go.ChangeMaps (setBlock heap_setBlock_same heap_setBlock_other)
open Go.WideMaps (ArrKey keyOf_pair)
/-- An entry: the pair's numbers, and what it tells. -/
abbrev E := Int × Int × Int
def kv (a b : Int) : Value := .agg #[.int .i64 a, .int .i64 b]
theorem kv_inj {a b c d : Int} : kv a b = kv c d ↔ a = c ∧ b = d := by
  unfold kv
  constructor
  · intro h
    injection h with h
    have h := congrArg Array.toList h
    simp at h
    exact h
  · rintro ⟨rfl, rfl⟩
    rfl
def ent (x : E) : Value × Value := (kv x.1 x.2.1, .int .i64 x.2.2)
def wf (x : Int) : Prop := (Lit.int .i64 x).wf = true
/-- Block B is a map of these entries. -/
def MapK (w : World) (B : Nat) (L : List E) : Prop :=
  (∃ es clock, w.heap[B]? = some (.map es clock) ∧ es.toList.map (fun e => (e.key, e.val)) = L.map ent) ∧ ∀ x ∈ L, wf x.1 ∧ wf x.2.1
def get (L : List E) (a b : Int) : Option Int := (L.find? fun x => decide (x.1 = a ∧ x.2.1 = b)).map (·.2.2)
section
variable {P : Program} {tk te t : TypeId} {w w1 : World} {B : Nat} {L : List E}
theorem MapK.made (w : World) : MapK (w.alloc (.map #[] 0)) w.heap.size [] :=
  ⟨⟨#[], 0, (MapKept.heap_alloc w _).1, rfl⟩, fun x hx => by cases hx⟩
theorem MapK.lt (h : MapK w B L) : B < w.heap.size := by
  obtain ⟨⟨es, clock, h, _⟩, _⟩ := h
  exact (Array.getElem?_eq_some_iff.1 h).1
theorem MapK.kept {row : Option Nat} (h : MapK w B L) (hg : w.grownBy w1 row) (hne : some B ≠ row) : MapK w1 B L := by
  have hlt := h.lt
  obtain ⟨⟨es, clock, h1, h2⟩, h3⟩ := h
  exact ⟨⟨es, clock, (hg.block B hlt hne).trans h1, h2⟩, h3⟩
theorem MapK.below (h : MapK w B L) (hb : Below w.heap.size w w1) : MapK w1 B L :=
  h.kept (row := none) ⟨hb.os, hb.tape, hb.output, hb.size, fun k hk _ => hb.block k hk⟩ (by simp)
theorem keys_read (A : ArrKey P tk te 2) (he : P.underlying te = some (.int .i64)) (hsz : ∃ m, P.types.size = m + 1) {es : Array MapEntry} (h2 : es.toList.map (fun e => (e.key, e.val)) = L.map ent) (h3 : ∀ x ∈ L, wf x.1 ∧ wf x.2.1) :
    ∀ e ∈ es.toList, ∃ l, keyOf P tk e.key = some l := by
  intro e hm
  have : (e.key, e.val) ∈ L.map ent := by rw [← h2]; exact List.mem_map.2 ⟨e, hm, rfl⟩
  obtain ⟨x, hx, ex⟩ := List.mem_map.1 this
  injection ex with e1 _
  exact ⟨_, by rw [← e1]; exact keyOf_pair A he hsz (h3 x hx).1 (h3 x hx).2⟩
/-- A pair that is not there yet is put in. -/
theorem MapK.put (A : ArrKey P tk te 2) (he : P.underlying te = some (.int .i64)) (hsz : ∃ m, P.types.size = m + 1) {tv : TypeId} (ht : P.underlying t = some (.map tk tv)) (h : MapK w B L) (a b k : Int) (ha : wf a) (hb : wf b) (hn : ∀ x ∈ L, ¬ (x.1 = a ∧ x.2.1 = b)) :
    ∃ w', (Instr.mapUpdate t (.map (some B)) (kv a b) (.int .i64 k)).run P w = .ok () w' ∧ MapK w' B (L ++ [(a, b, k)]) ∧ w.grownBy w' (some B) := by
  obtain ⟨⟨es, clock, hB, h2⟩, h3⟩ := h
  have K := A.law
  have hkey := keyOf_pair A he hsz ha hb
  rcases K.find w hkey es.toList (keys_read A he hsz h2 h3) with ⟨h1, _⟩ | ⟨j, e0, _, h4, h5⟩
  · refine ⟨setBlock w B (.map (es.push ⟨kv a b, .int .i64 k, clock⟩) (clock + 1)), ?_, ⟨⟨_, _, heap_setBlock_same hB _, ?_⟩, fun x hx => ?_⟩, ⟨rfl, rfl, rfl, by simp [setBlock], fun i _ hi => heap_setBlock_other hB _ (fun e => hi (by rw [e]))⟩⟩
    · unfold kv
      simp [Instr.mapUpdate, run_underlying ht, MapKept.run_getObj_map hB, K.check w false hkey, h1, MapKept.run_setObj_map _ hB, Result.andThen, setBlock]
    · rw [Array.toList_push, List.map_append, List.map_append, h2]
      rfl
    · rcases List.mem_append.1 hx with hx | hx
      · exact h3 x hx
      · rw [List.mem_singleton.1 hx]; exact ⟨ha, hb⟩
  · exfalso
    have hm := List.mem_of_getElem? h4
    have : (e0.key, e0.val) ∈ L.map ent := by rw [← h2]; exact List.mem_map.2 ⟨e0, hm, rfl⟩
    obtain ⟨x, hx, ex⟩ := List.mem_map.1 this
    injection ex with e1 _
    exact hn x hx (kv_inj.1 (e1.trans h5))
/-- No two entries of one pair. -/
def Apart (L : List E) : Prop := L.Pairwise fun x y => ¬ (x.1 = y.1 ∧ x.2.1 = y.2.1)
theorem get_of_mem : ∀ {L : List E}, Apart L → ∀ x ∈ L, get L x.1 x.2.1 = some x.2.2
  | [], _, x, hx => by cases hx
  | y :: r, hd, x, hx => by
    obtain ⟨h1, h2⟩ := List.pairwise_cons.1 hd
    unfold get
    rw [List.find?_cons]
    rcases List.mem_cons.1 hx with rfl | hx
    · simp
    · have : decide (y.1 = x.1 ∧ y.2.1 = x.2.1) = false := by simpa using h1 x hx
      rw [this]
      exact get_of_mem h2 x hx
theorem get_none {L : List E} {a b : Int} (h : ∀ x ∈ L, ¬ (x.1 = a ∧ x.2.1 = b)) : get L a b = none := by
  unfold get
  rw [List.find?_eq_none.2]
  · rfl
  · intro x hx
    simpa using h x hx
/-- What a look-up tells. -/
theorem MapK.look (A : ArrKey P tk te 2) (he : P.underlying te = some (.int .i64)) (hsz : ∃ m, P.types.size = m + 1) {tv : TypeId} (ht : P.underlying t = some (.map tk tv)) (hz : ∀ w, (zeroValue tv).run P w = .ok (.int .i64 0) w) (h : MapK w B L) (hd : Apart L) (a b : Int) (ha : wf a) (hb : wf b) (c : Bool) :
    (Instr.lookup t (.map (some B)) (kv a b) c).run P w = .ok (if c then .tuple #[.int .i64 ((get L a b).getD 0), .bool (get L a b).isSome] else .int .i64 ((get L a b).getD 0)) w := by
  obtain ⟨⟨es, clock, hB, h2⟩, h3⟩ := h
  have K := A.law
  have hkey := keyOf_pair A he hsz ha hb
  rcases K.find w hkey es.toList (keys_read A he hsz h2 h3) with ⟨h1, h4⟩ | ⟨j, e0, h1, h4, h5⟩
  · have hn : get L a b = none := get_none fun x hx e => by
      have : ent x ∈ es.toList.map (fun e => (e.key, e.val)) := by rw [h2]; exact List.mem_map.2 ⟨x, hx, rfl⟩
      obtain ⟨e0, hm, ex⟩ := List.mem_map.1 this
      injection ex with e1 _
      refine h4 e0 hm (e1.trans ?_)
      rw [e.1, e.2]
      rfl
    rw [hn]
    unfold kv
    simp [Instr.lookup, run_underlying ht, MapKept.run_getObj_map hB, K.check w _ hkey, h1, hz, Result.andThen]
  · have hm := List.mem_of_getElem? h4
    have : (e0.key, e0.val) ∈ L.map ent := by rw [← h2]; exact List.mem_map.2 ⟨e0, hm, rfl⟩
    obtain ⟨x, hx, ex⟩ := List.mem_map.1 this
    injection ex with e1 e2
    obtain ⟨e3, e4⟩ := kv_inj.1 (e1.trans h5)
    have hg := get_of_mem hd x hx
    rw [e3, e4] at hg
    rw [hg]
    unfold kv
    simp [Instr.lookup, run_underlying ht, MapKept.run_getObj_map hB, K.check w _ hkey, h1, Result.andThen, ← e2]
theorem MapK.len {tv : TypeId} (ht : P.underlying t = some (.map tk tv)) (h : MapK w B L) (ty : TypeId) : (Builtin.len_ #[t] ty #[.map (some B)]).run P w = .ok (.int .i64 L.length) w := by
  obtain ⟨⟨es, clock, hB, h2⟩, _⟩ := h
  have e1 : es.size = L.length := by
    have := congrArg List.length h2
    simpa using this
  simp [Builtin.len_, run_underlying ht, MapKept.run_getObj_map hB, goInt, Result.andThen, e1]
end
/-- What the map of those who are known tells. -/
theorem get_known {A : List (List Int)} {s : Bool} {N : Nat} (hA : Kn.Two A) (hd : A.Nodup) (hN : 2 ≤ Kn.still A s N) (hN2 : N ≤ 4000) (a b : Int) (hx : [a, b] ∈ A) :
    (get (Kn.known A s N) a b).getD 0 = (Kn.kt A s [a, b] : Int) ∧ (get (Kn.known A s N) a b).isSome = decide (0 < Kn.kt A s [a, b]) := by
  rw [← Kn.kt_of_end hN hN2 hx]
  cases hk : Kn.fst A s [a, b] N with
  | zero =>
    have hin := Kn.fst_in hx hk
    rw [get_none]
    · exact ⟨rfl, rfl⟩
    · intro e he hh
      obtain ⟨x, j, h1, rfl, h3, _, h5⟩ := Kn.known_mem hA N e he
      obtain ⟨e1, e2⟩ := hh
      dsimp only at e1 e2
      have : x = [a, b] := by rw [Kn.two_eq (hA x h1), e1, e2]
      subst this
      exact h5 (Kn.rests_down (j + 1) (N - (j + 1)) _ (by rw [show j + 1 + (N - (j + 1)) = N by omega]; exact hin))
  | succ j =>
    obtain ⟨h1, h2, h3⟩ := Kn.fst_at hx hk
    have h4 := Kn.mem_known h2 h3 N h1
    have h5 := get_of_mem (Kn.known_apart hA hd N) _ h4
    dsimp only at h5
    have e0 : Go.Proofs.YtlkbphhmahipdaaW.PrintWords.rd [a, b] 0 = a := rfl
    have e1 : Go.Proofs.YtlkbphhmahipdaaW.PrintWords.rd [a, b] 1 = b := rfl
    rw [e0, e1] at h5
    rw [h5]
    simp
end Go.Proofs.Ytlkbphhmahipdaa.Km
