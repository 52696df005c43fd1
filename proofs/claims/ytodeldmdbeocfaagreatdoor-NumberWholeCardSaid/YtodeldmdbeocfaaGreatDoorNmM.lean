/- Floats of 64 bits as whole numbers: no number; the place; the order. No program in sight. -/
import Derived.Test.YtodeldmdbeocfaaGreatDoorRz
namespace Go.Proofs.YtodeldmdbeocfaaGreatDoor.Nm
open Go Go.Proofs.YtodeldmdbeocfaaGreatDoor.Eng
set_option linter.unusedVariables false
set_option linter.unusedSimpArgs false
def isN (b : Nat) : Bool := (Ieee.double.order b b != some .eq)
theorem isN_eq (b : Nat) : isN b = decide (9218868437227405312 < b % 9223372036854775808) := by
  have hb : Ieee.double.binade = 4503599627370496 := by decide
  have hi : Ieee.double.infRung = 9218868437227405312 := by decide
  have hs : Ieee.double.signWeight = 9223372036854775808 := by decide
  unfold isN Ieee.Format.order Ieee.Format.read
  rw [hb, hi, hs]
  by_cases h1 : b % 9223372036854775808 < 4503599627370496
  · rw [if_pos h1]
    simp only [Ieee.Datum.order]
    simp; omega
  · rw [if_neg h1]
    by_cases h2 : b % 9223372036854775808 < 9218868437227405312
    · rw [if_pos h2]
      simp only [Ieee.Datum.order]
      simp; omega
    · rw [if_neg h2]
      by_cases h3 : b % 9223372036854775808 = 9218868437227405312
      · rw [if_pos h3]
        simp only [Ieee.Datum.order]
        simp; omega
      · rw [if_neg h3]
        show ((none : Option Ordering) != some .eq) = _
        have : 9218868437227405312 < b % 9223372036854775808 := by omega
        simp [this]
/-- Where a float stands: its class, its place in it. -/
def pl (b : Nat) : Int × Int := if isN b = true then (1, 0) else if b < 9223372036854775808 then (0, (b : Int)) else (0, -1 - ((b : Int) - 9223372036854775808))
def cmpP (a b : Nat) : Int :=
  if (pl a).1 < (pl b).1 ∨ ((pl a).1 = (pl b).1 ∧ (pl a).2 < (pl b).2) then -1
  else if (pl b).1 < (pl a).1 ∨ (pl b).2 < (pl a).2 then 1 else 0
def rk (b : Nat) : Int := if isN b = true then 18446744073709551615 else if 9223372036854775808 ≤ b then 18446744073709551615 - (b : Int) else 9223372036854775808 + (b : Int)
def cmpR (a b : Nat) : Int := if rk a < rk b then -1 else if rk b < rk a then 1 else 0
theorem pl_rk {b : Nat} (hb : b < 18446744073709551616) : ((pl b).1 = 1 ∧ (pl b).2 = 0 ∧ rk b = 18446744073709551615) ∨ ((pl b).1 = 0 ∧ rk b = (pl b).2 + 9223372036854775808 ∧ rk b < 18446744073709551615) := by
  have eb := isN_eq b
  unfold pl rk
  cases nb : isN b
  · rw [nb] at eb
    have eb := of_decide_eq_false eb.symm
    refine .inr ?_
    simp only [Bool.false_eq_true, if_false]
    by_cases h : b < 9223372036854775808
    · rw [if_pos h, if_neg (by omega)]
      refine ⟨rfl, ?_, ?_⟩
      · show _ = (b : Int) + _; omega
      · omega
    · rw [if_neg h, if_pos (by omega)]
      refine ⟨rfl, ?_, ?_⟩
      · show _ = (-1 - ((b : Int) - 9223372036854775808)) + _; omega
      · omega
  · exact .inl ⟨rfl, rfl, rfl⟩
theorem cmp_eq {a b : Nat} (ha : a < 18446744073709551616) (hb : b < 18446744073709551616) : cmpP a b = cmpR a b := by
  unfold cmpP cmpR
  rcases pl_rk ha with ⟨a1, a2, a3⟩ | ⟨a1, a2, a3⟩ <;> rcases pl_rk hb with ⟨b1, b2, b3⟩ | ⟨b1, b2, b3⟩ <;> rw [a1, b1]
  · rw [a2, b2, a3, b3]; rfl
  · rw [if_neg (by omega), if_pos (by omega), if_neg (by omega), if_pos (by omega)]
  · rw [if_pos (by omega), if_pos (by omega)]
  · by_cases h : (pl a).2 < (pl b).2
    · rw [if_pos (by omega), if_pos (by omega)]
    · by_cases h2 : (pl b).2 < (pl a).2
      · rw [if_neg (by omega), if_pos (by omega), if_neg (by omega), if_pos (by omega)]
      · rw [if_neg (by omega), if_neg (by omega), if_neg (by omega), if_neg (by omega)]
/-- The class of a float: finite, infinite, none. -/
def cls (b : Nat) : Int := if b / 4503599627370496 % 2048 = 2047 then (if b % 4503599627370496 = 0 then 1 else 2) else 0
theorem cls_none {b : Nat} (h1 : ((b : Int) / 4503599627370496 % 2048 == 2047) = true) (h2 : ((b : Int) % 4503599627370496 != 0) = true) : cls b = 2 := by
  simp only [beq_iff_eq, bne_iff_ne, ne_eq] at h1 h2
  unfold cls; rw [if_pos (by omega), if_neg (by omega)]
theorem cls_inf {b : Nat} (h1 : ((b : Int) / 4503599627370496 % 2048 == 2047) = true) (h2 : ((b : Int) % 4503599627370496 != 0) = false) : cls b = 1 := by
  simp only [beq_iff_eq, bne_eq_false_iff_eq] at h1 h2
  unfold cls; rw [if_pos (by omega), if_pos (by omega)]
theorem cls_fin {b : Nat} (h1 : ((b : Int) / 4503599627370496 % 2048 == 2047) = false) : cls b = 0 := by
  simp only [beq_eq_false_iff_ne, ne_eq] at h1
  unfold cls; rw [if_neg (by omega)]
theorem cls_isN {b : Nat} (h : b < 18446744073709551616) : (cls b == 2) = isN b := by
  rw [isN_eq]; unfold cls
  by_cases h1 : b / 4503599627370496 % 2048 = 2047
  · rw [if_pos h1]
    by_cases h2 : b % 4503599627370496 = 0
    · rw [if_pos h2]; simp; omega
    · rw [if_neg h2]; simp; omega
  · rw [if_neg h1]; simp; omega
theorem and_neg {a : Nat} (h : 9223372036854775808 ≤ a) (h2 : a < 18446744073709551616) : bits .and .i64 ((a : Int) - 18446744073709551616) 9223372036854775807 = (a : Int) - 9223372036854775808 := by
  have e1 : BitVec.ofInt 64 ((a : Int) - 18446744073709551616) = BitVec.ofNat 64 a := by
    apply BitVec.eq_of_toNat_eq
    simp [BitVec.toNat_ofInt]
    omega
  have e2 : BitVec.ofInt 64 9223372036854775807 = BitVec.ofNat 64 (2 ^ 63 - 1) := by decide
  show IntKind.i64.wrap (((BitVec.ofInt 64 ((a : Int) - 18446744073709551616) &&& BitVec.ofInt 64 9223372036854775807).toNat : Nat) : Int) = _
  rw [e1, e2, BitVec.toNat_and, BitVec.toNat_ofNat, BitVec.toNat_ofNat, Nat.mod_eq_of_lt h2, Nat.mod_eq_of_lt (by decide), Nat.and_two_pow_sub_one_eq_mod]
  rw [wrap_i64m]
  omega
end Go.Proofs.YtodeldmdbeocfaaGreatDoor.Nm
