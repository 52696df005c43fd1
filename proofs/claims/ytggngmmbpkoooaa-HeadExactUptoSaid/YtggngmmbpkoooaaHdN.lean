/- Plain laws of heads: what any bytes are read as. No program here. -/
import Derived.Test.YtggngmmbpkoooaaHdM
namespace Go.Proofs.Ytggngmmbpkoooaa.Hd
open Go Go.Proofs.Ytggngmmbpkoooaa.Eng
set_option linter.unusedVariables false
set_option linter.unusedSimpArgs false
theorem be_inj : ∀ (n : Nat) (a b : List UInt8), a.length = n → b.length = n → be a = be b → a = b
  | 0, a, b, ha, hb, _ => by rw [List.eq_nil_of_length_eq_zero ha, List.eq_nil_of_length_eq_zero hb]
  | n + 1, a, b, ha, hb, h => by
    rcases List.eq_nil_or_concat a with rfl | ⟨a', x, rfl⟩
    · simp at ha
    rcases List.eq_nil_or_concat b with rfl | ⟨b', y, rfl⟩
    · simp at hb
    simp only [List.concat_eq_append] at *
    rw [be_snoc, be_snoc] at h
    have hx := bv_lt x
    have hy := bv_lt y
    have h1 : be a' = be b' := by omega
    have h2 : x = y := UInt8.toNat_inj.1 (by omega)
    rw [be_inj n a' b' (by simpa using ha) (by simpa using hb) h1, h2]
theorem hiB_be {l : List UInt8} {K : Nat} (h : l.length = K) : hiB (be l) K K = l := by
  have hb := be_bd l
  rw [h] at hb
  have h1 := be_hiB hb.1 K hb.2 K (Nat.le_refl _)
  rw [Nat.sub_self, Int.pow_zero, Int.ediv_one] at h1
  exact be_inj K _ _ (hiB_len _ _ _) h h1
theorem behind_inj {i j : Int} (h : behindI i = behindI j) (h0 : 0 < behindI i) : i = j := by
  have h1 := behind_pos h0
  have h2 := behind_pos (i := j) (h ▸ h0)
  have hi : i = 24 ∨ i = 25 ∨ i = 26 ∨ i = 27 := by omega
  have hj : j = 24 ∨ j = 25 ∨ j = 26 ∨ j = 27 := by omega
  revert h
  rcases hi with rfl | rfl | rfl | rfl <;> rcases hj with rfl | rfl | rfl | rfl <;> decide
theorem be_lt64 {l : List UInt8} (h : l.length ≤ 8) : be l < 18446744073709551616 := by
  have h1 := (be_bd l).2
  have h2 : (256 : Nat) ^ l.length ≤ 256 ^ 8 := Nat.pow_le_pow_right (by decide) h
  have h3 : ((256 : Nat) ^ l.length : Int) ≤ ((256 ^ 8 : Nat) : Int) := by exact_mod_cast h2
  have h4 : ((256 ^ 8 : Nat) : Int) = 18446744073709551616 := by decide
  have h5 : (((256 : Nat) : Int)) = 256 := rfl
  rw [h5] at h3
  omega
/-- What a head is read as: one of the errors, or a head that hangs on its own bytes. -/
theorem readF_ways (l : List UInt8) :
    (∃ c : Int, c ≠ 0 ∧ readF l = rHead 0 0 0 0 false c ∧ ¬ (c = 20 ∧ 8 < l.length)) ∨
    ∃ (c : UInt8) (r : List UInt8) (n : Int) (u : Nat) (s : Bool), l = c :: r ∧ readF l = rHead ((c.toNat : Int) / 32) ((c.toNat : Int) % 32) n (u : Int) s 0 ∧ 1 ≤ u ∧ u ≤ 9 ∧ u ≤ l.length ∧ 0 ≤ n ∧ n < 18446744073709551616 ∧
      readF (l.take u) = rHead ((c.toNat : Int) / 32) ((c.toNat : Int) % 32) n (u : Int) s 0 ∧ (∀ k, k < u → readF (l.take k) = rHead 0 0 0 0 false 20) ∧
      ((c.toNat : Int) / 32 ≠ 7 → (c.toNat : Int) % 32 < 28 → decide (layB ((c.toNat : Int) / 32) n = l.take u) = s) ∧ ((c.toNat : Int) % 32 = 31 → n = 0 ∧ u = 1) := by
  cases l with
  | nil => exact .inl ⟨20, by decide, rfl, by simp⟩
  | cons c r =>
    have hc := bv_lt c
    have hbd := behind_bd ((c.toNat : Int) % 32)
    obtain ⟨K, hK⟩ : ∃ K : Nat, behindI ((c.toNat : Int) % 32) = K := Int.eq_ofNat_of_zero_le hbd.1
    obtain ⟨n, hn⟩ : ∃ n : Int, n = if (c.toNat : Int) % 32 < 24 then (c.toNat : Int) % 32 else be (r.take K) := ⟨_, rfl⟩
    have hR := readF_cons (c := c) (r := r) hK
    rw [← hn] at hR
    by_cases h1 : ((c.toNat : Int) % 32 = 31 ∧ ((c.toNat : Int) / 32 ≤ 1 ∨ (c.toNat : Int) / 32 = 6)) ∨ (27 < (c.toNat : Int) % 32 ∧ (c.toNat : Int) % 32 < 31)
    · rw [if_pos h1] at hR; exact .inl ⟨21, by decide, hR, fun h => absurd h.1 (by decide)⟩
    rw [if_neg h1] at hR
    by_cases h2 : ((c :: r).length : Int) < 1 + behindI ((c.toNat : Int) % 32)
    · rw [if_pos h2] at hR; exact .inl ⟨20, by decide, hR, fun h => by have := h.2; omega⟩
    rw [if_neg h2] at hR
    by_cases h3 : (c.toNat : Int) / 32 = 7 ∧ (c.toNat : Int) % 32 = 24 ∧ n < 32
    · rw [if_pos h3] at hR; exact .inl ⟨21, by decide, hR, fun h => absurd h.1 (by decide)⟩
    rw [if_neg h3] at hR
    have hrK : K ≤ r.length := by rw [hK] at h2; simp at h2; omega
    have htl : (r.take K).length = K := by simp; omega
    have hn0 : 0 ≤ n ∧ n < 18446744073709551616 := by
      rw [hn]; split
      · omega
      · exact ⟨(be_bd _).1, be_lt64 (by omega)⟩
    have hT : (c :: r).take (1 + K) = c :: r.take K := by rw [Nat.add_comm]; rfl
    refine .inr ⟨c, r, n, 1 + K, _, rfl, by rw [hR, hK]; rfl, by omega, by omega, by simp; omega, hn0.1, hn0.2, ?_, ?_, ?_, ?_⟩
    · rw [hT, readF_cons hK, if_neg h1, if_neg (by rw [hK]; simp [htl]; omega), List.take_take, Nat.min_self, ← hn, if_neg h3, hK]; rfl
    · intro k hk
      cases k with
      | zero => rfl
      | succ k =>
        rw [List.take_succ_cons]
        have hp := behind_pos (i := (c.toNat : Int) % 32) (by omega)
        exact readF_short (i := (c.toNat : Int) % 32) rfl hp.1 hp.2 (by rw [hK]; simp; omega)
    · intro h7 h28
      refine decide_eq_decide.2 ⟨fun h => .inr (.inr ?_), fun h => ?_⟩
      · have hl := congrArg List.length h
        rw [layB_len, hT] at hl
        have hs := lay_size hn0.1 hn0.2 ((c.toNat : Int) / 32)
        simp [htl] at hl
        omega
      · have hs : (1 : Int) + K = sizeI n := by omega
        obtain ⟨c', hc', hw⟩ := layB_ways (m := (c.toNat : Int) / 32) (n := n) (by omega) (by omega) hn0.1 hn0.2
        have hbk : behindI (infoI n) = behindI ((c.toNat : Int) % 32) := by unfold sizeI at hs; omega
        rw [hT]
        rcases hw with ⟨h4, hi, hl⟩ | ⟨wide, i0, i1, hb, hlt, hl⟩
        · have hz : behindI (infoI n) = 0 := by rw [hi]; unfold behindI; rw [if_pos (.inl h4)]
          have hI : (c.toNat : Int) % 32 < 24 := by
            rcases Int.lt_or_le ((c.toNat : Int) % 32) 24 with h | h
            · exact h
            · rw [hz] at hbk; unfold behindI at hbk; rw [if_neg (by omega)] at hbk; repeat' split at hbk
              all_goals omega
          rw [if_pos hI] at hn
          have hcc : c' = c := UInt8.toNat_inj.1 (by rw [hi] at hc'; omega)
          have hK0 : K = 0 := by omega
          rw [hl, hcc, hK0]; rfl
        · have hp : 0 < behindI (infoI n) := by
            unfold behindI; rw [if_neg (by omega)]; repeat' split
            all_goals omega
          have hii := behind_inj hbk hp
          rw [if_neg (by omega)] at hn
          have hcc : c' = c := UInt8.toNat_inj.1 (by omega)
          have hKw : wide = K := by omega
          rw [hl, hcc, hKw, hn, hiB_be htl]
    · intro h31
      have hb0 : behindI ((c.toNat : Int) % 32) = 0 := by rw [h31]; rfl
      have hK0 : K = 0 := by omega
      subst hK0
      rw [if_neg (by omega)] at hn
      exact ⟨hn, rfl⟩
end Go.Proofs.Ytggngmmbpkoooaa.Hd
