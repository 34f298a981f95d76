/- Drawn regions inside a round of a range over a function: those that only read, and those whose last operation may do anything: one walk in the text's order serves all orders. No condition. -/
import Derived.Sort.QuietTacIn
import Derived.TacticsIn
namespace Go.Proofs.Ytnbolemfldmohaa.Rq
open Go
section
variable {F : Fence} {n : Nat} {P : Program} {ops : Array Oper} {md : Region.Mode} {C : World → Prop}
/-- None of these operations defers. -/
def noDefer (l : List Oper) : Bool := l.all fun o => match o.op with | .defer _ => false | _ => true
theorem noDefer_spec {l : List Oper} (h : noDefer l = true) {o : Oper} (ho : o ∈ l) (c : _) : o.op ≠ .defer c := by
  intro e
  have := List.all_eq_true.1 h o ho
  rw [e] at this
  cases this
theorem op_of {o : Oper} {a : Act} {K : Act → Prop} {K' : Act → World → Prop} {Q' : Exit → Act → World → Prop} {w : World} (hnd : ∀ c, o.op ≠ .defer c) (hw : C w) (h : ∀ a w', C w' → K a → K' a w')
    (ha : o.askedIn F P a C) (hh : o.quietIn F n P a C K) : o.wpIn F n P a w K' Q' := by
  obtain ⟨v, h1, h2⟩ := hh
  have h3 := h1 w hw
  unfold Oper.quietAtIn at h3
  unfold Oper.wpIn
  refine ⟨ha w hw, ?_⟩
  rw [Oper.semAt_eq _ _ _ hnd]
  generalize (execOp a.eval o).run P w = r at *
  cases r with
  | ok x w' =>
    cases x <;> simp only [Oper.quietUponIn] at h3 <;> simp only [Oper.uponIn]
    case value u =>
      obtain ⟨e1, e2⟩ := h3
      rw [e1, e2]
      exact h _ _ hw h2
    case skip =>
      obtain ⟨e1, e2⟩ := h3
      rw [e1, ← e2]
      exact h _ _ hw h2
    case enter f args =>
      obtain ⟨e1, hd, hc⟩ := h3
      rw [e1]
      exact ⟨hd, hc.mono fun e w'' ⟨he, hw''⟩ => by subst he; exact h _ _ hw'' h2⟩
  | halt x w' => simp only [Oper.quietUponIn] at h3
theorem at_of {i : Nat} {a : Act} {K : Act → Prop} {K' : Act → World → Prop} {Q' : Exit → Act → World → Prop} {w : World} (hnd : noDefer ops.toList = true) (hC : C w) (h : ∀ a w', C w' → K a → K' a w')
    (hh : qOpIn F n P ops C i K a) : wpOpIn F n P ops Q' i K' a w := by
  unfold qOpIn at hh
  unfold wpOpIn
  split
  · rename_i ho; simp only [ho] at hh; exact h _ _ hC hh
  · rename_i o ho
    have hm : o ∈ ops.toList := by
      rw [← Array.getElem?_toList] at ho
      exact List.mem_of_getElem? ho
    simp only [ho] at hh
    obtain ⟨ha, hh⟩ := hh
    split
    · rename_i hw; simp only [hw, if_true] at hh; exact op_of (noDefer_spec hnd hm) hC h ha hh
    · rename_i hw; simp only [hw] at hh; exact ⟨ha w hC, h _ _ hC hh⟩
theorem any_of {Q : Act → Prop} {Q' : Exit → Act → World → Prop} (hnd : noDefer ops.toList = true) (hQ : ∀ a w, C w → Q a → Q' .normal a w) : ∀ (fuel : Nat) (listed : Array Bool) (a : Act) (w : World), C w →
    wpAnyQIn F n P md ops C Q fuel listed a → wpAnyIn F n P md ops Q' fuel listed a w
  | 0, _, _, _, hw, h => ⟨h.1, hQ _ _ hw h.2⟩
  | fuel + 1, _, _, _, hw, h => ⟨fun h0 => hQ _ _ hw (h.1 h0), fun i hi => at_of hnd hw (fun a' w' hw' => any_of hnd hQ fuel _ a' w' hw') (h.2 i hi)⟩
/-- A region that only reads, in a round of a range over a function, too: one walk, in the text's order. -/
theorem region_quiet {id : Nat} {Q : Exit → Act → World → Prop} {a : Act} {w : World} {l : List Oper} (hnd : noDefer l = true) (hm : P.follows .mixedOrders = true) (hB : Region.lexB .any l.toArray = true)
    (h : wpQuietIn F n P l.toArray (fun w' => ∃ n, w' = w.drewN n) (fun a' => ∀ w', (∃ n, w' = w.drewN n) → Q .normal a' w') l a) : (Code.region id l.toArray true).wpIn F n P Q a w := by
  simp only [Region.lexB, Bool.and_eq_true] at hB
  refine wpIn_region_any hm (any_of (C := fun w' => ∃ n, w' = w.drewN n) (Q := fun a' => ∀ w', (∃ n, w' = w.drewN n) → Q .normal a' w') (by simpa using hnd) (fun _ w' hw' h => h w' hw') _ _ _ _ ⟨1, rfl⟩ ?_)
  have := wpAnyQIn_lex (F := F) (n := n) (C := fun w' => ∃ n, w' = w.drewN n) (md := .any) hB.1 l 0 (Array.replicate l.toArray.size false) a (by simp) (by simpa using hB.2) h
  simpa using this
end
/-! A drawn region whose last operation may do anything, and waits for all the others, which only read. -/
section
variable {F : Fence} {n : Nat} {P : Program} {ops : Array Oper} {md : Region.Mode} {C : World → Prop} {last : Nat}
def anyL (F : Fence) (n : Nat) (P : Program) (md : Region.Mode) (ops : Array Oper) (C : World → Prop) (last : Nat) (Q : Act → Prop) : Nat → Array Bool → Act → Prop
  | 0, listed, a => (∀ j, listed.getD j true = false → j = last) ∧ last ∈ Region.ready md ops listed ∧ Q a
  | fuel + 1, listed, a => Region.ready md ops listed ≠ [] ∧ ∀ i ∈ Region.ready md ops listed, i ≠ last ∧ qOpIn F n P ops C i (anyL F n P md ops C last Q fuel (listed.setIfInBounds i true)) a
/-- The last one waits for all the others. -/
def waits (md : Region.Mode) (ops : Array Oper) (last : Nat) : Bool := match ops[last]? with | none => false | some o => (List.range ops.size).all fun i => i == last || o.after.any fun e => Region.binds md e && e.on == i
theorem waits_spec (h : waits md ops last = true) {listed : Array Bool} (hl : last ∈ Region.ready md ops listed) {i : Nat} (hi : i < ops.size) (hne : i ≠ last) : listed.getD i false = true := by
  obtain ⟨_, o, ho, hall⟩ := mem_ready.1 hl
  simp only [waits, ho, List.all_eq_true, List.mem_range] at h
  have h1 := h i hi
  simp only [Bool.or_eq_true, beq_iff_eq, hne, false_or] at h1
  obtain ⟨e, he, hb⟩ := Array.any_eq_true'.1 h1
  simp only [Bool.and_eq_true, beq_iff_eq] at hb
  have := hall e he hb.1
  rw [hb.2] at this
  exact this
theorem not_last (h : waits md ops last = true) {listed : Array Bool} {i : Nat} (hr : i ∈ Region.ready md ops listed) (hne : i ≠ last) : last ∉ Region.ready md ops listed := by
  intro hl
  obtain ⟨h0, o, ho, _⟩ := mem_ready.1 hr
  have h1 := waits_spec h hl (Array.getElem?_eq_some_iff.1 ho).1 hne
  rw [Array.getD_eq_getD_getElem?] at h0 h1
  cases e : listed[i]? with
  | none => rw [e] at h1; simp at h1
  | some b => rw [e] at h0 h1; simp at h0 h1; rw [h0] at h1; cases h1
theorem anyL_first {Q : Act → Prop} {i : Nat} {oi : Oper} {v : Value} (hw : waits md ops last = true) (hi : ops[i]? = some oi) (hil : i ≠ last) (hsel : ∀ (j : Nat) (o : Oper) cs b, ops[j]? = some o → o.op ≠ .select cs b) :
    ∀ (fuel : Nat) (listed : Array Bool) (a : Act),
      (∀ j oj, ops[j]? = some oj → j ≠ i → listed.getD j true = false → (∀ e ∈ oj.after, Region.binds md e = true → e.on ≠ i) → oi.apart ops oj = true) →
      i ∈ Region.ready md ops listed → YieldsQuiet F n P ops C oi v a →
      anyL F n P md ops C last Q fuel (listed.setIfInBounds i true) (a.put oi.dst v) → anyL F n P md ops C last Q (fuel + 1) listed a := by
  intro fuel
  induction fuel with
  | zero =>
    intro listed a _ hr hy H
    refine ⟨fun h => (by rw [h] at hr; cases hr), fun j hj => ?_⟩
    by_cases hji : j = i
    · subst hji; exact ⟨hil, hy.qOpIn hi H⟩
    · have h1 := H.1 j (mem_ready.1 (ready_mono hj hji)).1
      subst h1
      exact absurd hj (not_last hw hr hil)
  | succ fuel ih =>
    intro listed a hfree hr hy H
    refine ⟨fun h => (by rw [h] at hr; cases hr), fun j hj => ?_⟩
    by_cases hji : j = i
    · subst hji; exact ⟨hil, hy.qOpIn hi H⟩
    · obtain ⟨hjl, h1⟩ := H.2 j (ready_mono hj hji)
      refine ⟨hjl, ?_⟩
      obtain ⟨hjun, oj, hoj, hall⟩ := mem_ready.1 hj
      have hnot : ∀ e ∈ oj.after, Region.binds md e = true → e.on ≠ i := fun e he hb heq => by
        have h1 := hall e he hb
        have h0 := (mem_ready.1 hr).1
        rw [heq] at h1
        rcases Nat.lt_or_ge i listed.size with h' | h'
        · simp [h'] at h0 h1; rw [h0] at h1; cases h1
        · simp [Array.getElem?_eq_none h'] at h1
      have h2 := qOpIn_put hoj (hfree j oj hoj hji hjun hnot) (fun cs b => hsel i oi cs b hi) (fun cs b => hsel j oj cs b hoj) hy h1
      have hfree' : ∀ k ok, ops[k]? = some ok → k ≠ i → (listed.setIfInBounds j true).getD k true = false →
          (∀ e ∈ ok.after, Region.binds md e = true → e.on ≠ i) → oi.apart ops ok = true := fun k ok hk hki hun hno => by
        refine hfree k ok hk hki ?_ hno
        by_cases hjk : j = k
        · subst hjk; exact hjun
        · rw [getD_set_ne true hjk] at hun; exact hun
      refine qOpIn_mono (fun a' h3 => ih (listed.setIfInBounds j true) a' hfree' (ready_mono hr (Ne.symm hji)) h3.1 ?_) h2
      rw [Array.setIfInBounds_comm _ _ hji]
      exact h3.2
def lexL (md : Region.Mode) (ops : Array Oper) (last : Nat) : Nat → Nat → Array Bool → Bool
  | 0, _, listed => ((List.range listed.size).all fun j => listed.getD j true || j == last) && (Region.ready md ops listed).contains last
  | fuel + 1, k, listed => (Region.ready md ops listed).contains k && Region.free md ops listed k && k != last && lexL md ops last fuel (k + 1) (listed.setIfInBounds k true)
theorem anyL_lex {Q : Act → Prop} (hw : waits md ops last = true) (hs : Region.noSelect ops = true) : ∀ (l : List Oper) (k : Nat) (listed : Array Bool) (a : Act), (∀ j, j < l.length → l[j]? = ops[k + j]?) →
    lexL md ops last l.length k listed = true → wpQuietIn F n P ops C Q l a → anyL F n P md ops C last Q l.length listed a
  | [], _, listed, _, _, hB, h => by
    simp only [lexL, Bool.and_eq_true, List.all_eq_true, List.length_nil, List.mem_range] at hB
    refine ⟨fun j hj => ?_, by simpa using hB.2, h⟩
    rcases Nat.lt_or_ge j listed.size with h' | h'
    · have := hB.1 j h'
      rw [hj] at this
      simpa using this
    · simp [Array.getElem?_eq_none h'] at hj
  | o :: l, k, listed, a, hl, hB, h => by
    have h0 : ops[k]? = some o := by simpa using (hl 0 (by simp)).symm
    simp only [List.length_cons, lexL, Bool.and_eq_true] at hB
    obtain ⟨⟨⟨hr, hf⟩, hk⟩, hB'⟩ := hB
    have hst : qOpIn F n P ops C k (wpQuietIn F n P ops C Q l) a := by unfold qOpIn; simp only [h0]; exact h
    obtain ⟨v, hy, hK⟩ := yieldsQuiet_of_qOpIn h0 hst
    exact anyL_first hw h0 (by simpa using hk) (Region.noSelect_spec hs) l.length listed a (Region.free_spec h0 hf) (by simpa using hr) hy
      (anyL_lex hw hs l (k + 1) _ _ (fun j hj => by have := hl (j + 1) (by simp; omega); simpa [Nat.add_assoc, Nat.add_comm 1 j] using this) hB' hK)
theorem any_ofL {Q' : Exit → Act → World → Prop} (hnd : noDefer ops.toList = true) : ∀ (fuel : Nat) (listed : Array Bool) (a : Act) (w : World), C w →
    anyL F n P md ops C last (fun a' => ∀ w', C w' → wpOpIn F n P ops Q' last (fun a'' w'' => Q' .normal a'' w'') a' w') fuel listed a → (∀ (a : Act) (w : World) (K K' : Act → World → Prop), (∀ a w, K a w → K' a w) → wpOpIn F n P ops Q' last K a w → wpOpIn F n P ops Q' last K' a w) → wpAnyIn F n P md ops Q' (fuel + 1) listed a w
  | 0, listed, a, w, hw, h, hmono => by
    refine ⟨fun h0 => (by have := h.2.1; rw [h0] at this; cases this), fun i hi => ?_⟩
    have e := h.1 i (mem_ready.1 hi).1
    subst e
    refine hmono a w _ _ (fun a' w' hq => ?_) (h.2.2 w hw)
    refine ⟨?_, hq⟩
    rw [List.eq_nil_iff_forall_not_mem]
    intro j hj
    have h1 := (mem_ready.1 hj).1
    by_cases hji : i = j
    · subst hji
      obtain ⟨h2, _⟩ := mem_ready.1 hi
      rcases Nat.lt_or_ge i listed.size with h' | h'
      · simp [h'] at h1
      · simp [Array.getElem?_eq_none h'] at h2
    · rw [getD_set_ne true hji] at h1
      exact hji (h.1 j h1).symm
  | fuel + 1, _, _, _, hw, h, hmono => ⟨fun h0 => absurd h0 h.1, fun i hi => at_of hnd hw (fun a' w' hw' h' => any_ofL hnd fuel _ a' w' hw' h' hmono) (h.2 i hi).2⟩
theorem region_last {id : Nat} {Q : Exit → Act → World → Prop} {a : Act} {w : World} {l : List Oper} (m : Nat) (hl : l.length = m + 1) (hnd : noDefer l = true) (hm : P.follows .mixedOrders = true) (hs : Region.noSelect l.toArray = true) (hw : waits .any l.toArray m = true)
    (hB : lexL .any l.toArray m m 0 (Array.replicate (m + 1) false) = true)
    (h : wpQuietIn F n P l.toArray (fun w' => ∃ n, w' = w.drewN n) (fun a' => ∀ w', (∃ n, w' = w.drewN n) → wpOpIn F n P l.toArray Q m (fun a'' w'' => Q .normal a'' w'') a' w') (l.take m) a) : (Code.region id l.toArray true).wpIn F n P Q a w := by
  refine wpIn_region_any hm ?_
  have hlt : (l.take m).length = m := by simp [hl]
  have h1 := anyL_lex (F := F) (n := n) (C := fun w' => ∃ n, w' = w.drewN n) (md := .any) hw hs (l.take m) 0 (Array.replicate (m + 1) false) a (fun j hj => by
    rw [hlt] at hj
    simp [hj]) (by rw [hlt]; exact hB) h
  rw [hlt] at h1
  have h2 := any_ofL (Q' := Q) (last := m) (by simpa using hnd) m _ a _ ⟨1, rfl⟩ h1 (fun a w K K' hk => wpOpIn_mono hk)
  rw [show l.toArray.size = m + 1 by simpa using hl]
  exact h2
end
end Go.Proofs.Ytnbolemfldmohaa.Rq
