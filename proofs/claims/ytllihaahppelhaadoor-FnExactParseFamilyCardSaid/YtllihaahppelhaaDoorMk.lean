/- Texts as lists of bytes, and the decimal numeral. No condition. -/
import Derived.Test.YtllihaahppelhaaDoorWWords
import Derived.Lib.ItoaNum
namespace Go.Proofs.YtllihaahppelhaaDoor.Tx
/-- A text of these bytes. -/
def mk (l : List UInt8) : ByteArray := ⟨l.toArray⟩
theorem mk_app (a b : List UInt8) : mk a ++ mk b = mk (a ++ b) := by
  apply ByteArray.ext
  rw [ByteArray.data_append]
  simp [mk]
theorem mk_size (l : List UInt8) : (mk l).size = l.length := by simp [mk, ByteArray.size]
theorem mk_list (l : List UInt8) : (mk l).data.toList = l := by simp [mk]
theorem mk_of (b : ByteArray) : mk b.data.toList = b := by
  obtain ⟨⟨l⟩⟩ := b
  rfl
theorem digits_len (k : Nat) : ∀ u : Nat, u < 10 ^ (k + 1) → (Lib.decDigits u).length ≤ k + 1 := by
  induction k with
  | zero =>
    intro u h
    have h10 : u < 10 := by simpa using h
    rw [Lib.decDigits, dif_pos h10]
    simp
  | succ k ih =>
    intro u h
    rw [Lib.decDigits]
    by_cases h10 : u < 10
    · rw [dif_pos h10]; simp
    · rw [dif_neg h10]
      have h1 : u / 10 < 10 ^ (k + 1) := by
        rw [Nat.pow_succ] at h
        omega
      have := ih (u / 10) h1
      simp; omega
/-- A number's text. -/
def num (n : Int) : List UInt8 := Lib.decDigits n.toNat
theorem num_len (n : Int) (h : n ≤ 1000000) : (num n).length ≤ 7 := digits_len 6 n.toNat (by omega)
theorem num_pos (n : Int) : 0 < (num n).length := by
  unfold num
  rw [Lib.decDigits]
  split <;> simp
end Go.Proofs.YtllihaahppelhaaDoor.Tx
