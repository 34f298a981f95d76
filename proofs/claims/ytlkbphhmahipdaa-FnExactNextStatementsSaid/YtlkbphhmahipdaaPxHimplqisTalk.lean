/- Calls of the functions of the given program return what the plain Lean functions of the same names return; and a row of a law out of its pure statement. Written by a program of this session out of the translation; Lean checks it. No condition. -/
import Derived.Test.YtlkbphhmahipdaaPx0
import Derived.Test.YtlkbphhmahipdaaPx8
import Derived.Test.YtlkbphhmahipdaaTk
import Derived.Test.YtlkbphhmahipdaaShl
namespace Go.Proofs.Ytlkbphhmahipdaa.P
open Go.RowKit Go.Proofs.YtlkbphhmahipdaaW.PrintWords Go.Proofs.YtlkbphhmahipdaaW.PrintLast Go.Proofs.YtlkbphhmahipdaaW.PrintMore
attribute [local go_sem] max2_int min2_int max_two min_two max_three min_three max_four min_four   -- for this text's walks alone
set_option linter.unusedVariables false
set_option linter.unusedSimpArgs false

/-! ### impl_isTalk: function 75, by hand -/
-- IMPORT Derived.Test.YtlkbphhmahipdaaTk
-- IMPORT Derived.Test.YtlkbphhmahipdaaShl
/-- Is a text a talk? -/
def impl_isTalk.one (talk : ByteArray) (j : Nat) : Bool := (decide (bt talk (2 * (j : Int)) = 115) || decide (bt talk (2 * (j : Int)) = 112)) && (decide (bt talk (2 * (j : Int) + 1) = 45) || decide (bt talk (2 * (j : Int) + 1) = 43) || decide (bt talk (2 * (j : Int) + 1) = 33))
def impl_isTalk.ok (talk : ByteArray) : Bool := decide (talk.size % 2 = 0) && decide (talk.size ≤ 24) && (List.range (talk.size / 2)).all (impl_isTalk.one talk)
theorem impl_isTalk.cut (talk : ByteArray) (i : Nat) (h : i < talk.size) : talk.extract i (i + 1) = ⟨#[talk[i]]⟩ := by
  apply ByteArray.ext
  rw [ByteArray.data_extract]
  apply Array.ext
  · have : talk.data.size = talk.size := rfl
    simp; omega
  · intro j h1 h2
    have : j = 0 := by simp at h2; omega
    subst this
    simp
    rfl
theorem impl_isTalk.who (talk : ByteArray) (i : Nat) (h : i < talk.size) : impl_isWho.f (talk.extract i (i + 1)) = some (decide (bt talk (i : Int) = 115) || decide (bt talk (i : Int) = 112)) := by
  rw [impl_isTalk.cut talk i h]
  have hb : bt talk (i : Int) = (talk[i].toNat : Int) := by simp [bt, h]
  rw [hb]
  generalize talk[i] = b
  have hl : (⟨#[b]⟩ : ByteArray).toList = [b] := by rw [ByteArray.toList_eq]
  unfold impl_isWho.f
  rw [hl]
  have h115 : ([b] = ([115] : List UInt8)) ↔ ((b.toNat : Int) = 115) := by
    constructor
    · intro e; injection e with e; subst e; rfl
    · intro e; have : b = 115 := UInt8.toNat_inj.1 (by have : b.toNat = 115 := by omega
                                                       rw [this]; rfl)
      rw [this]
  have h112 : ([b] == ([112] : List UInt8)) = decide ((b.toNat : Int) = 112) := by
    rw [Bool.eq_iff_iff, beq_iff_eq, decide_eq_true_eq]
    constructor
    · intro e; injection e with e; subst e; rfl
    · intro e; have : b = 112 := UInt8.toNat_inj.1 (by have : b.toNat = 112 := by omega
                                                       rw [this]; rfl)
      rw [this]
  by_cases h : (b.toNat : Int) = 115
  · rw [if_pos (h115.2 h)]; simp [h]
  · rw [if_neg (fun e => h (h115.1 e)), h112]; simp [h]
set_option maxRecDepth 100000 in
theorem impl_isTalk.idx (c : Int) (h : 0 ≤ c ∧ c ≤ 255) : decide (Lib.indexByte [45, 43, 33] c.toNat.toUInt8 < 0) = !(decide (c = 45) || decide (c = 43) || decide (c = 33)) := by
  obtain ⟨n, rfl⟩ := Int.eq_ofNat_of_zero_le h.1
  have hn : n < 256 := by omega
  have key : ∀ n : Fin 256, decide (Lib.indexByte [45, 43, 33] n.val.toUInt8 < 0) = !(decide (n.val = 45) || decide (n.val = 43) || decide (n.val = 33)) := by decide
  have k := key ⟨n, hn⟩
  have e : ∀ q : Nat, decide ((n : Int) = (q : Int)) = decide (n = q) := fun q => by rw [decide_eq_decide]; omega
  rw [show ((45 : Int)) = ((45 : Nat) : Int) from rfl, show ((43 : Int)) = ((43 : Nat) : Int) from rfl, show ((33 : Int)) = ((33 : Nat) : Int) from rfl, e, e, e, Int.toNat_natCast]
  exact k
def impl_isTalk.f (talk : ByteArray) : Option Bool := if talk.size ≤ 1048576 then some (impl_isTalk.ok talk) else none
set_option maxHeartbeats 4000000 in
set_option maxRecDepth 100000 in
theorem impl_isTalk.calls (talk : ByteArray) (r : Bool) (w : World) (h : impl_isTalk.f talk = some r) :
    Calls Try.prog 75 #[.string talk] w fun e w' => e = .returned (.bool r) ∧ Below w.heap.size w w' := by
  have hsz : talk.size ≤ 1048576 := by
    unfold impl_isTalk.f at h
    split at h
    · assumption
    · cases h
  obtain rfl : impl_isTalk.ok talk = r := by unfold impl_isTalk.f at h; rw [if_pos hsz] at h; exact Option.some.inj h
  clear h
  by_cases h1 : talk.size % 2 = 0
  · by_cases h2 : talk.size ≤ 24
    · obtain ⟨m, hm⟩ : ∃ m, talk.size = 2 * m := ⟨talk.size / 2, by omega⟩
      have eok : impl_isTalk.ok talk = (List.range m).all (impl_isTalk.one talk) := by
        have : talk.size / 2 = m := by omega
        simp [impl_isTalk.ok, h1, h2, this]
      rw [eok]
      have hz1 : (talk.size : Int).tmod 2 = 0 := by rw [Int.tmod_eq_emod_of_nonneg (by omega)]; omega
      have hz2 : (talk.size : Int) ≤ 24 := by omega
      have T87 : Aside0 (∀ j : Nat, j < m → ∀ W, Calls Try.prog 87 #[.string (talk.extract (2 * j) (2 * j + 1))] W fun e w' => e = .returned (.bool (decide (bt talk (2 * (j : Int)) = 115) || decide (bt talk (2 * (j : Int)) = 112))) ∧ ∃ q, w' = W.drewN q) := ⟨fun j hj W => by
        have := impl_isTalk.who talk (2 * j) (by omega)
        rw [show ((2 * j : Nat) : Int) = 2 * (j : Int) by omega] at this
        exact (impl_isWho.calls _ _ W this).mono fun e w' h => ⟨h.1, h.2.out⟩⟩
      have T108 : Aside0 (∀ c : Int, 0 ≤ c → c ≤ 255 → ∀ W, Calls Try.prog 108 #[.string ⟨#[45, 43, 33]⟩, .int .u8 c] W fun e w' => ∃ q, e = .returned (.int .i64 q) ∧ w' = W ∧ (decide (q < 0) = !(decide (c = 45) || decide (c = 43) || decide (c = 33)))) := ⟨fun c h0 h3 W =>
        (Try.strings_IndexByte ⟨#[45, 43, 33]⟩ c W).mono fun e w' h => ⟨_, h.1, h.2, impl_isTalk.idx c ⟨h0, h3⟩⟩⟩
      clear eok
      go_enter Try.func75, Try.ntmps75
      go_wp2
      go_loopg [3] m (fun gg s3 wr => ∃ (j : Nat) (i : Int), s3 = .int .i64 i ∧ j ≤ m ∧ m - j ≤ gg ∧ Aside0 (i = 2 * (j : Int) ∧ (List.range j).all (impl_isTalk.one talk) = true) ∧ Aside0 (Below w.heap.size w wr))
      case atStart => exact ⟨0, 0, rfl, Nat.zero_le _, by omega, ⟨rfl, rfl⟩, ⟨Below.refl _ _⟩⟩
      case round =>
        obtain ⟨j, i, rfl, hj, hgg, HI, HB⟩ := hrel
        by_cases hjm : j < m
        · have hi0 : 0 ≤ i := by have := HI.out.1; omega
          have hlt : i < 2 * (m : Int) := by have := HI.out.1; omega
          have hi1 : i + 1 < 2 * (m : Int) := by have := HI.out.1; omega
          have hi2 : i + 1 ≤ 2 * (m : Int) := by omega
          have hi3 : i ≤ i + 1 := by omega
          have hi4 : 0 ≤ i + 1 := by omega
          have hm24 : 2 * (m : Int) ≤ 24 := by omega
          have hx12 := bt_at talk (i + 1)
          have hr := bt_range talk (i + 1)
          have T1 := Aside0.mk (T87.out j hjm)
          have T2 := Aside0.mk (T108.out (bt talk (i + 1)) hr.1 hr.2)
          have e1 : 2 * j = i.toNat := by have := HI.out.1; omega
          have e2 : 2 * j + 1 = (i + 1).toNat := by have := HI.out.1; omega
          have e3 : 2 * (j : Int) = i := by have := HI.out.1; omega
          rw [e2, e1, e3] at T1
          have HALL := Aside0.mk (show (impl_isTalk.one talk j = true → (List.range (j + 1)).all (impl_isTalk.one talk) = true) ∧ (impl_isTalk.one talk j = false → (List.range m).all (impl_isTalk.one talk) = false) from ⟨fun h => by rw [List.range_succ, List.all_append, HI.out.2]; simp [h], fun h => List.all_eq_false.2 ⟨j, List.mem_range.2 hjm, by simp [h]⟩⟩)
          have EO : impl_isTalk.one talk j = ((decide (bt talk i = 115) || decide (bt talk i = 112)) && (decide (bt talk (i + 1) = 45) || decide (bt talk (i + 1) = 43) || decide (bt talk (i + 1) = 33))) := by unfold impl_isTalk.one; rw [e3]
          rw [EO] at HALL
          clear EO e1 e2 e3 hr
          cases hb : (decide (bt talk i = 115) || decide (bt talk i = 112)) with
          | false =>
            rw [hb] at T1 HALL
            clear hb T2
            go_wp2_with (go_at_call 87; refine (T1.out _).mono ?_; rintro e w2 ⟨rfl, q, rfl⟩)
            go_ret
            exact ⟨by rw [HALL.out.2 rfl]; rfl, below_step HB.out (pw_below_drewN (Below.refl _ _) q)⟩
          | true =>
            rw [hb] at T1 HALL
            clear hb
            cases hb3 : (decide (bt talk (i + 1) = 45) || decide (bt talk (i + 1) = 43) || decide (bt talk (i + 1) = 33)) with
            | false =>
              rw [hb3] at T2 HALL
              clear hb3
              go_wp2_with (first
                | (go_at_call 87; refine (T1.out _).mono ?_; rintro e w2 ⟨rfl, q, rfl⟩)
                | (go_at_call 108; refine (T2.out _).mono ?_; rintro e w3 ⟨x, rfl, rfl, hx⟩; have hx := of_decide_eq_true hx))
              go_ret
              exact ⟨by rw [HALL.out.2 rfl]; rfl, below_step HB.out (pw_below_drewN (Below.refl _ _) q)⟩
            | true =>
              rw [hb3] at T2 HALL
              clear hb3
              go_wp2_with (first
                | (go_at_call 87; refine (T1.out _).mono ?_; rintro e w2 ⟨rfl, q, rfl⟩)
                | (go_at_call 108; refine (T2.out _).mono ?_; rintro e w3 ⟨x, rfl, rfl, hx⟩; have hx := of_decide_eq_false hx))
              go_roundg (m - (j + 1))
              case measure => omega
              case rel => exact ⟨j + 1, i + 2, by go_num, by omega, by omega, ⟨by have := HI.out.1; omega, HALL.out.1 rfl⟩, ⟨below_step HB.out (pw_below_drewN (Below.refl _ _) q)⟩⟩
        · have hlt : ¬ i < 2 * (m : Int) := by have := HI.out.1; omega
          obtain rfl : j = m := by omega
          go_wp2
          go_ret
          exact ⟨by rw [HI.out.2]; rfl, HB.out⟩
    · have e : impl_isTalk.ok talk = false := by simp [impl_isTalk.ok, h2]
      rw [e]
      have hz1 : (talk.size : Int).tmod 2 = 0 := by rw [Int.tmod_eq_emod_of_nonneg (by omega)]; omega
      have hz2 : (24 : Int) < (talk.size : Int) := by omega
      clear e h1 h2
      go_enter Try.func75, Try.ntmps75
      go_wp2
      go_ret
      exact ⟨rfl, Below.refl _ _⟩
  · have e : impl_isTalk.ok talk = false := by simp [impl_isTalk.ok, h1]
    rw [e]
    have hz1 : ¬ (talk.size : Int).tmod 2 = 0 := by rw [Int.tmod_eq_emod_of_nonneg (by omega)]; omega
    clear e h1
    go_enter Try.func75, Try.ntmps75
    go_wp2
    go_ret
    exact ⟨rfl, Below.refl _ _⟩

end Go.Proofs.Ytlkbphhmahipdaa.P
