/- Floats of 64 bits that are whole numbers: rounding of whole numbers, cutting, order. No program in sight. -/
import Derived.Test.YtodeldmdbeocfaaGreatDoorNmM
import Derived.Laws.FloatArith
namespace Go.Proofs.YtodeldmdbeocfaaGreatDoor.Nm
open Go Ieee
set_option linter.unusedVariables false
set_option linter.unusedSimpArgs false
theorem d_bin : double.binade = 2 ^ 52 := by decide
theorem d_inf : double.infRung = 2047 * 2 ^ 52 := by decide
theorem d_sign : double.signWeight = 2 ^ 63 := by decide
theorem d_least : double.leastPlace = -1074 := by decide
theorem d_frac : double.fractionBits = 52 := rfl
theorem read_word {s : Bool} {r : Nat} (h : r < 2047 * 2 ^ 52) : double.read (double.word s r) = if r < 2 ^ 52 then .number s r (-1074) else .number s (2 ^ 52 + r % 2 ^ 52) (-1074 + (r / 2 ^ 52 - 1 : Nat)) := by
  have h1 : (double.word s r) % 2 ^ 63 = r := by
    unfold Format.word; rw [d_sign]
    cases s <;> simp only [if_true, if_false, Bool.false_eq_true] <;> omega
  have h2 : ((double.word s r) / 2 ^ 63 % 2 == 1) = s := by
    unfold Format.word; rw [d_sign]
    cases s <;> simp only [if_true, if_false, Bool.false_eq_true, beq_iff_eq, beq_eq_false_iff_ne] <;> omega
  unfold Format.read
  rw [d_bin, d_sign, d_least, d_inf]
  simp only [h1, h2]
  split
  · rfl
  · rfl
/-- A rung of a normal number. -/
def rung (last : Int) (kept : Nat) : Nat := (last + 1074).toNat * 2 ^ 52 + kept
theorem read_rung {s : Bool} {last : Int} {kept : Nat} (h0 : -1074 ≤ last) (h1 : last ≤ 900) (h2 : 2 ^ 52 ≤ kept) (h3 : kept < 2 ^ 53) : double.read (double.word s (rung last kept)) = .number s kept last := by
  obtain ⟨k, hk⟩ : ∃ k : Nat, last = (k : Int) - 1074 := ⟨(last + 1074).toNat, by omega⟩
  have hr : rung last kept = k * 2 ^ 52 + kept := by unfold rung; congr 2; omega
  rw [hr, read_word (by omega), if_neg (by omega)]
  congr 1
  · omega
  · omega
theorem nearest_of {s : Bool} {mag : Nat} {place last : Int} (hm : mag ≠ 0) (hl : place + mag.log2 - 52 = last) (h0 : -1074 ≤ last) (h1 : last ≤ 900) :
    double.nearest s mag place = double.word s (rung last (Toward.even.cut s (mag <<< (place - last).toNat) (last - place).toNat)) ∨ double.infRung < rung last (Toward.even.cut s (mag <<< (place - last).toNat) (last - place).toNat) := by
  unfold Format.nearest
  rw [if_neg hm, d_frac, d_least, d_bin]
  have e : max (place + (mag.log2 : Int) - (52 : Nat)) (-1074) = last := by omega
  simp only [e]
  by_cases h : rung last (Toward.even.cut s (mag <<< (place - last).toNat) (last - place).toNat) ≤ double.infRung
  · left
    congr 1
    have : (last - -1074).toNat = (last + 1074).toNat := by omega
    rw [this]
    exact Nat.min_eq_left h
  · right; omega
theorem cut_exact {way : Toward} {s : Bool} {n d : Nat} (h : 2 ^ d ∣ n) (hn : n ≠ 0) : way.cut s n d = n / 2 ^ d := by
  obtain ⟨k, rfl⟩ := h
  have hk : k ≠ 0 := by intro e; subst e; simp at hn
  have hlog : d ≤ (2 ^ d * k).log2 := by
    rw [Nat.le_log2 hn]
    exact Nat.le_mul_of_pos_right _ (Nat.pos_of_ne_zero hk)
  unfold Toward.cut
  have hmin : min d ((2 ^ d * k).log2 + 2) = d := by omega
  rw [hmin, Nat.shiftLeft_eq, Nat.one_mul]
  have hr : 2 ^ d * k % 2 ^ d = 0 := Nat.mul_mod_right _ _
  have hp : 0 < 2 ^ d := Nat.two_pow_pos d
  simp only [hr]
  cases way <;> simp <;> omega
theorem log_bounds {n : Nat} (h : n ≠ 0) : 2 ^ n.log2 ≤ n ∧ n < 2 ^ (n.log2 + 1) := ⟨Nat.log2_self_le h, Nat.lt_log2_self⟩
/-- A number that the format has is written as itself. -/
theorem nearest_exact {s : Bool} {mag : Nat} {place last : Int} {kept : Nat} (hm : mag ≠ 0) (hl : place + mag.log2 - 52 = last) (h0 : -1074 ≤ last) (h1 : last ≤ 900)
    (hk : mag * 2 ^ (place - last).toNat = kept * 2 ^ (last - place).toNat) : double.nearest s mag place = double.word s (rung last kept) ∧ 2 ^ 52 ≤ kept ∧ kept < 2 ^ 53 := by
  obtain ⟨b1, b2⟩ := log_bounds hm
  have hb : 2 ^ 52 ≤ kept ∧ kept < 2 ^ 53 := by
    by_cases h : last ≤ place
    · have e : (last - place).toNat = 0 := by omega
      obtain ⟨d, hd⟩ : ∃ d : Nat, (place - last).toNat = d ∧ mag.log2 + d = 52 := ⟨(place - last).toNat, rfl, by omega⟩
      rw [e, hd.1, Nat.pow_zero, Nat.mul_one] at hk
      rw [← hk]
      constructor
      · calc 2 ^ 52 = 2 ^ mag.log2 * 2 ^ d := by rw [← Nat.pow_add, hd.2]
          _ ≤ mag * 2 ^ d := Nat.mul_le_mul_right _ b1
      · calc mag * 2 ^ d < 2 ^ (mag.log2 + 1) * 2 ^ d := Nat.mul_lt_mul_of_pos_right b2 (Nat.two_pow_pos d)
          _ = 2 ^ 53 := by rw [← Nat.pow_add]; congr 1; omega
    · have e : (place - last).toNat = 0 := by omega
      obtain ⟨d, hd⟩ : ∃ d : Nat, (last - place).toNat = d ∧ mag.log2 = 52 + d := ⟨(last - place).toNat, rfl, by omega⟩
      rw [e, hd.1, Nat.pow_zero, Nat.mul_one] at hk
      rw [hd.2] at b1 b2
      have p := Nat.two_pow_pos d
      constructor
      · have : 2 ^ 52 * 2 ^ d ≤ kept * 2 ^ d := by rw [← Nat.pow_add, ← hk]; exact b1
        exact Nat.le_of_mul_le_mul_right this p
      · have : kept * 2 ^ d < 2 ^ 53 * 2 ^ d := by rw [← Nat.pow_add, ← hk]; have e2 : 53 + d = 52 + d + 1 := by omega
                                                   rw [e2]; exact b2
        exact Nat.lt_of_mul_lt_mul_right this
  have hc : Toward.even.cut s (mag <<< (place - last).toNat) (last - place).toNat = kept := by
    rw [Nat.shiftLeft_eq, hk, cut_exact ⟨kept, Nat.mul_comm _ _⟩]
    · exact Nat.mul_div_cancel _ (Nat.two_pow_pos _)
    · have := Nat.two_pow_pos (last - place).toNat
      intro e
      rcases Nat.mul_eq_zero.1 e with e | e <;> omega
  refine ⟨?_, hb⟩
  rcases nearest_of (s := s) hm hl h0 h1 with h | h
  · rw [h, hc]
  · exfalso
    rw [hc, d_inf] at h
    unfold rung at h
    have : (last + 1074).toNat ≤ 1974 := by omega
    omega
theorem nearest_read {s : Bool} {mag : Nat} {place last : Int} {kept : Nat} (hm : mag ≠ 0) (hl : place + mag.log2 - 52 = last) (h0 : -1074 ≤ last) (h1 : last ≤ 900)
    (hk : mag * 2 ^ (place - last).toNat = kept * 2 ^ (last - place).toNat) : double.read (double.nearest s mag place) = .number s kept last := by
  obtain ⟨e, b1, b2⟩ := nearest_exact (s := s) hm hl h0 h1 hk
  rw [e, read_rung h0 h1 b1 b2]
/-- What a whole number comes to as a float: V, with its word. -/
theorem nearest_whole (s : Bool) {a : Nat} (ha : a ≠ 0) (hb : a ≤ 2 ^ 63) : ∃ V kept last, V ≠ 0 ∧ V ≤ 2 ^ 63 ∧ double.nearest s a 0 = double.nearest s V 0 ∧ double.read (double.nearest s V 0) = .number s kept last ∧
    last ≤ 11 ∧ -52 ≤ last ∧ V * 2 ^ (-last).toNat = kept * 2 ^ last.toNat ∧ (a < 2 ^ 53 → V = a) := by
  obtain ⟨b1, b2⟩ := log_bounds ha
  have hL : a.log2 ≤ 63 := by
    have : 2 ^ a.log2 ≤ 2 ^ 63 := Nat.le_trans b1 hb
    exact (Nat.pow_le_pow_iff_right (by decide : 1 < 2)).1 this
  by_cases h52 : a.log2 ≤ 52
  · refine ⟨a, a * 2 ^ (52 - a.log2), (a.log2 : Int) - 52, ha, hb, rfl, ?_, by omega, by omega, ?_, fun _ => rfl⟩
    · refine nearest_read ha (by omega) (by omega) (by omega) ?_
      have e1 : (0 - ((a.log2 : Int) - 52)).toNat = 52 - a.log2 := by omega
      have e2 : ((a.log2 : Int) - 52 - 0).toNat = 0 := by omega
      rw [e1, e2, Nat.pow_zero, Nat.mul_one]
    · have e1 : (-((a.log2 : Int) - 52)).toNat = 52 - a.log2 := by omega
      have e2 : ((a.log2 : Int) - 52).toNat = 0 := by omega
      rw [e1, e2, Nat.pow_zero, Nat.mul_one]
  · obtain ⟨d, hd, hd1, hd11⟩ : ∃ d : Nat, a.log2 = 52 + d ∧ 1 ≤ d ∧ d ≤ 11 := ⟨a.log2 - 52, by omega, by omega, by omega⟩
    have hp := Nat.two_pow_pos d
    obtain ⟨more, hcut⟩ : ∃ more : Bool, Toward.even.cut s a d = a / 2 ^ d + more.toNat ∧ (a = 2 ^ 63 → more = false) := by
      have hmin : min d (a.log2 + 2) = d := by omega
      refine ⟨(2 ^ d < 2 * (a % 2 ^ d) || (2 ^ d == 2 * (a % 2 ^ d) && a / 2 ^ d % 2 == 1)), ?_, ?_⟩
      · unfold Toward.cut; rw [hmin, Nat.shiftLeft_eq, Nat.one_mul]
      · intro e
        have hr : a % 2 ^ d = 0 := by
          rw [e]
          have : (2 : Nat) ^ 63 = 2 ^ d * 2 ^ (63 - d) := by rw [← Nat.pow_add]; congr 1; omega
          rw [this]; exact Nat.mul_mod_right _ _
        simp only [hr]
        simp
    obtain ⟨hcut, hmore⟩ := hcut
    have hlow : 2 ^ 52 ≤ a / 2 ^ d ∧ a / 2 ^ d < 2 ^ 53 := by
      rw [hd] at b1 b2
      constructor
      · rw [Nat.le_div_iff_mul_le hp, ← Nat.pow_add]; exact b1
      · rw [Nat.div_lt_iff_lt_mul hp, ← Nat.pow_add]
        have e2 : 53 + d = 52 + d + 1 := by omega
        rw [e2]; exact b2
    obtain ⟨k0, hk0⟩ : ∃ k0, k0 = a / 2 ^ d + more.toNat := ⟨_, rfl⟩
    have hm1 : more.toNat ≤ 1 := by cases more <;> simp
    have hn : double.nearest s a 0 = double.word s (rung d k0) := by
      have e1 : ((0 : Int) - (d : Int)).toNat = 0 := by omega
      have e2 : ((d : Int) - 0).toNat = d := by omega
      rcases nearest_of (s := s) (place := 0) (last := d) ha (by omega) (by omega) (by omega) with h | h
      · rw [h, e1, e2, Nat.shiftLeft_eq, Nat.pow_zero, Nat.mul_one, hcut, hk0]
      · exfalso
        rw [e1, e2, Nat.shiftLeft_eq, Nat.pow_zero, Nat.mul_one, hcut, d_inf] at h
        unfold rung at h
        omega
    have hV63 : k0 * 2 ^ d ≤ 2 ^ 63 := by
      by_cases hd' : d = 11
      · subst hd'
        have ea : a = 2 ^ 63 := by rw [hd] at b1; omega
        rw [hk0, hmore ea, ea]; decide
      · have : k0 ≤ 2 ^ 53 := by omega
        calc k0 * 2 ^ d ≤ 2 ^ 53 * 2 ^ d := Nat.mul_le_mul_right _ this
          _ = 2 ^ (53 + d) := by rw [Nat.pow_add]
          _ ≤ 2 ^ 63 := Nat.pow_le_pow_right (by decide) (by omega)
    have hV0 : k0 * 2 ^ d ≠ 0 := by
      intro e
      rcases Nat.mul_eq_zero.1 e with e | e <;> omega
    have hlt53 : a < 2 ^ 53 → k0 * 2 ^ d = a := by
      intro h
      exfalso
      rw [hd] at b1
      have : 2 ^ 53 ≤ 2 ^ (52 + d) := Nat.pow_le_pow_right (by decide) (by omega)
      omega
    by_cases hk : k0 < 2 ^ 53
    · have hlog : (k0 * 2 ^ d).log2 = 52 + d := by
        rw [Nat.log2_eq_iff hV0]
        constructor
        · rw [Nat.pow_add]; exact Nat.mul_le_mul_right _ (by omega)
        · have e2 : 52 + d + 1 = 53 + d := by omega
          rw [e2, Nat.pow_add]; exact Nat.mul_lt_mul_of_pos_right hk hp
      have e1 : ((0 : Int) - (d : Int)).toNat = 0 := by omega
      have e2 : ((d : Int) - 0).toNat = d := by omega
      have hx := nearest_exact (s := s) (place := 0) (last := d) (kept := k0) hV0 (by rw [hlog]; omega) (by omega) (by omega) (by rw [e1, e2, Nat.pow_zero, Nat.mul_one])
      refine ⟨k0 * 2 ^ d, k0, d, hV0, hV63, hn.trans hx.1.symm, ?_, by omega, by omega, ?_, hlt53⟩
      · rw [hx.1, read_rung (by omega) (by omega) hx.2.1 hx.2.2]
      · have e3 : (-(d : Int)).toNat = 0 := by omega
        have e4 : ((d : Int)).toNat = d := by omega
        rw [e3, e4, Nat.pow_zero, Nat.mul_one]
    · have hk53 : k0 = 2 ^ 53 := by omega
      have hVp : k0 * 2 ^ d = 2 ^ (53 + d) := by rw [hk53, Nat.pow_add]
      have hd10 : d ≤ 10 := by
        rcases Nat.lt_or_ge d 11 with h | h
        · omega
        · exfalso
          have : d = 11 := by omega
          subst this
          rw [hk53] at hV63
          exact absurd hV63 (by decide)
      have hlog : (k0 * 2 ^ d).log2 = 53 + d := by rw [hVp, Nat.log2_two_pow]
      have e1 : ((0 : Int) - ((d : Int) + 1)).toNat = 0 := by omega
      have e2 : (((d : Int) + 1) - 0).toNat = d + 1 := by omega
      have hmul : k0 * 2 ^ d = 2 ^ 52 * 2 ^ (d + 1) := by rw [hVp, ← Nat.pow_add]; congr 1; omega
      have hx := nearest_exact (s := s) (place := 0) (last := (d : Int) + 1) (kept := 2 ^ 52) hV0 (by rw [hlog]; omega) (by omega) (by omega) (by rw [e1, e2, Nat.pow_zero, Nat.mul_one]; exact hmul)
      have hr : rung d k0 = rung ((d : Int) + 1) (2 ^ 52) := by unfold rung; rw [hk53]; omega
      refine ⟨k0 * 2 ^ d, 2 ^ 52, (d : Int) + 1, hV0, hV63, ?_, ?_, by omega, by omega, ?_, hlt53⟩
      · rw [hn, hx.1, hr]
      · rw [hx.1, read_rung (by omega) (by omega) hx.2.1 hx.2.2]
      · have e3 : (-((d : Int) + 1)).toNat = 0 := by omega
        have e4 : ((d : Int) + 1).toNat = d + 1 := by omega
        rw [e3, e4, Nat.pow_zero, Nat.mul_one]; exact hmul
theorem order_self {w : Nat} {s : Bool} {m : Nat} {e : Int} (h : double.read w = .number s m e) : double.order w w = some .eq := by
  unfold Format.order
  rw [h]
  simp [Datum.order]
/-- A whole number's float, cut towards nought, is itself. -/
theorem integral_whole {s : Bool} {V kept : Nat} {last : Int} (h0 : V ≠ 0) (hl : -52 ≤ last) (h : V * 2 ^ (-last).toNat = kept * 2 ^ last.toNat) : (Datum.number s kept last).integral .zero = .number s V 0 := by
  show Datum.number s (Toward.zero.cut s (kept <<< last.toNat) (-last).toNat) 0 = _
  congr 1
  rw [Nat.shiftLeft_eq, ← h, cut_exact ⟨V, Nat.mul_comm _ _⟩]
  · exact Nat.mul_div_cancel _ (Nat.two_pow_pos _)
  · have := Nat.two_pow_pos (-last).toNat
    intro e
    rcases Nat.mul_eq_zero.1 e with e | e <;> omega
theorem cmp_mul {a b c : Int} (hc : 0 < c) : compare (a * c) (b * c) = compare a b := by
  have h1 : a * c < b * c ↔ a < b := Int.mul_lt_mul_right hc
  have h2 : a * c = b * c ↔ a = b := Int.mul_eq_mul_right_iff (by omega)
  simp only [compare, compareOfLessAndEq, h1, h2]
theorem signed_eq (s : Bool) (m u : Nat) : signed s m u = (if s then -1 else 1) * ((m : Int) * 2 ^ u) := by
  unfold signed
  rw [Nat.shiftLeft_eq]
  cases s <;> simp
/-- Against 2 to the 63. -/
theorem order_top {w : Nat} {s : Bool} {V kept : Nat} {last : Int} (hr : double.read w = .number s kept last) (h11 : last ≤ 11) (hl : -52 ≤ last) (h : V * 2 ^ (-last).toNat = kept * 2 ^ last.toNat) :
    double.order w 4890909195324358656 = some (compare (signed s V 0) 9223372036854775808) ∧ double.order w 14114281232179134464 = some (compare (signed s V 0) (-9223372036854775808)) := by
  have r1 : double.read 4890909195324358656 = .number false (2 ^ 52) 11 := by decide
  have r2 : double.read 14114281232179134464 = .number true (2 ^ 52) 11 := by decide
  have hb : min last 11 = last := by omega
  have hc1 : (0 : Int) < 2 ^ (-last).toNat := Int.pow_pos (by decide)
  have hc2 : (0 : Int) < 2 ^ last.toNat := Int.pow_pos (by decide)
  have hV : (V : Int) * 2 ^ (-last).toNat = (kept : Int) * 2 ^ last.toNat := by exact_mod_cast h
  have hT : (9223372036854775808 : Int) * 2 ^ (-last).toNat = (4503599627370496 * 2 ^ (11 - last).toNat) * 2 ^ last.toNat := by
    have e : ((9223372036854775808 : Int)) = 2 ^ 63 := by decide
    have e2 : ((4503599627370496 : Int)) = 2 ^ 52 := by decide
    rw [e, e2, ← Int.pow_add, ← Int.pow_add, ← Int.pow_add]
    congr 1
    omega
  have e52 : ((2 ^ 52 : Nat) : Int) = 4503599627370496 := by decide
  unfold Format.order
  rw [hr, r1, r2]
  simp only [Datum.order, hb]
  have e0 : (last - last).toNat = 0 := by omega
  rw [e0]
  constructor
  · congr 1
    rw [← cmp_mul hc2 (a := signed s kept 0), ← cmp_mul hc1 (a := signed s V 0), signed_eq, signed_eq, signed_eq, hT]
    cases s <;> simp only [Bool.false_eq_true, if_true, if_false, Int.one_mul, Int.neg_mul, Int.pow_zero, Int.mul_one, hV, e52]
  · congr 1
    rw [← cmp_mul hc2 (a := signed s kept 0), ← cmp_mul hc1 (a := signed s V 0), signed_eq, signed_eq, signed_eq]
    have hT' : (-9223372036854775808 : Int) * 2 ^ (-last).toNat = -((4503599627370496 * 2 ^ (11 - last).toNat) * 2 ^ last.toNat) := by rw [← hT]; omega
    rw [hT']
    cases s <;> simp only [Bool.false_eq_true, if_true, if_false, Int.one_mul, Int.neg_mul, Int.pow_zero, Int.mul_one, hV, e52]
/-- The float of a whole number of 64 bits. -/
def fi (n : Int) : Nat := double.nearest (n < 0) n.natAbs 0
/-- Against 1/2 above. -/
theorem sum_half {w : Nat} {s : Bool} {kept : Nat} {last : Int} {n : Int} (hr : double.read w = .number s kept last) (hl : -52 ≤ last) (hs : signed s kept (last + 53).toNat = n * 2 ^ 53) :
    double.add w 4602678819172646912 = some (double.nearest (n < 0) (2 ^ 52 * (2 * n + 1).natAbs) (-53)) := by
  have r1 : double.read 4602678819172646912 = .number false (2 ^ 52) (-53) := by decide
  have hb : min last (-53) = -53 := by omega
  have e1 : last - (-53) = last + 53 := by omega
  unfold Format.add
  rw [hr, r1]
  simp only [Datum.sum, hb, e1, hs]
  have e2 : signed false (2 ^ 52) ((-53 : Int) - (-53)).toNat = 4503599627370496 := by decide
  rw [e2]
  have h0 : ¬ (n * 2 ^ 53 + 4503599627370496 = 0) := by omega
  rw [if_neg h0]
  have h1 : (n * 2 ^ 53 + 4503599627370496).natAbs = 2 ^ 52 * (2 * n + 1).natAbs := by omega
  have h2 : decide (n * 2 ^ 53 + 4503599627370496 < 0) = decide (n < 0) := by
    by_cases h : n < 0
    · rw [decide_eq_true h, decide_eq_true (by omega)]
    · rw [decide_eq_false h, decide_eq_false (by omega)]
  rw [h1, h2]
  rfl
/-- The halves: their words, cut towards nought, are other words. -/
theorem half_order (s : Bool) {q : Nat} (hq : q % 2 = 1) (hb : q < 2 ^ 53) : ∃ k l, double.read (double.nearest s (2 ^ 52 * q) (-53)) = .number s k l ∧
    double.order (double.nearest s (2 ^ 52 * q) (-53)) (double.write ((Datum.number s k l).integral .zero)) ≠ some .eq := by
  have hq0 : q ≠ 0 := by omega
  obtain ⟨b1, b2⟩ := log_bounds hq0
  have hL : q.log2 ≤ 52 := by
    rcases Nat.lt_or_ge q.log2 53 with h | h
    · omega
    · exfalso
      have : 2 ^ 53 ≤ 2 ^ q.log2 := Nat.pow_le_pow_right (by decide) h
      omega
  obtain ⟨L, hL', hL2⟩ : ∃ L, q.log2 = L ∧ L ≤ 52 := ⟨_, rfl, hL⟩
  have hlog : (2 ^ 52 * q).log2 = 52 + L := by
    rw [Nat.log2_eq_iff (by omega)]
    rw [hL'] at b1 b2
    constructor
    · rw [Nat.pow_add]; exact Nat.mul_le_mul_left _ b1
    · have : 52 + L + 1 = 52 + (L + 1) := by omega
      rw [this, Nat.pow_add]; exact Nat.mul_lt_mul_of_pos_left b2 (by decide)
  have e1 : ((-53 : Int) - ((L : Int) - 53)).toNat = 0 := by omega
  have e2 : (((L : Int) - 53) - (-53)).toNat = L := by omega
  have hk : 2 ^ 52 * q = (2 ^ (52 - L) * q) * 2 ^ L := by
    have : (2 : Nat) ^ 52 = 2 ^ (52 - L) * 2 ^ L := by rw [← Nat.pow_add]; congr 1; omega
    rw [this, Nat.mul_right_comm]
  have hx := nearest_exact (s := s) (mag := 2 ^ 52 * q) (place := -53) (last := (L : Int) - 53) (kept := 2 ^ (52 - L) * q) (by omega) (by rw [hlog]; omega) (by omega) (by omega) (by rw [e1, e2, Nat.pow_zero, Nat.mul_one]; exact hk)
  have hrd : double.read (double.nearest s (2 ^ 52 * q) (-53)) = .number s (2 ^ (52 - L) * q) ((L : Int) - 53) := by rw [hx.1, read_rung (by omega) (by omega) hx.2.1 hx.2.2]
  refine ⟨_, _, hrd, ?_⟩
  -- the cut
  have hcut : (Datum.number s (2 ^ (52 - L) * q) ((L : Int) - 53)).integral .zero = .number s (q / 2) 0 := by
    show Datum.number s (Toward.zero.cut s ((2 ^ (52 - L) * q) <<< ((L : Int) - 53).toNat) (-((L : Int) - 53)).toNat) 0 = _
    have f1 : ((L : Int) - 53).toNat = 0 := by omega
    have f2 : (-((L : Int) - 53)).toNat = 53 - L := by omega
    rw [f1, f2, Nat.shiftLeft_eq, Nat.pow_zero, Nat.mul_one]
    congr 1
    have hk52 : (2 ^ (52 - L) * q).log2 = 52 := by
      rw [Nat.log2_eq_iff (by have := hx.2.1; omega)]
      exact ⟨hx.2.1, hx.2.2⟩
    unfold Toward.cut
    have hmin : min (53 - L) ((2 ^ (52 - L) * q).log2 + 2) = 53 - L := by omega
    rw [hmin, Nat.shiftLeft_eq, Nat.one_mul]
    simp only [Bool.toNat_false, Nat.add_zero]
    have : (2 : Nat) ^ (53 - L) = 2 ^ (52 - L) * 2 := by rw [← Nat.pow_succ]; congr 1; omega
    rw [this, Nat.mul_div_mul_left _ _ (Nat.two_pow_pos _)]
  rw [hcut]
  show double.order _ (double.nearest s (q / 2) 0) ≠ some .eq
  unfold Format.order
  rw [hrd]
  by_cases h0 : q / 2 = 0
  · have hq1 : q = 1 := by omega
    have : L = 0 := by rw [← hL', hq1]; decide
    subst this; subst hq1
    cases s <;> decide
  · obtain ⟨T, hT⟩ : ∃ T, T = q / 2 := ⟨_, rfl⟩
    rw [← hT] at h0 ⊢
    obtain ⟨V, k, l, hV0, hVb, hnn, hrr, hl11, hl52, hVk, hVe⟩ := nearest_whole s h0 (by omega)
    have hVT : V = T := hVe (by omega)
    rw [hnn, hrr]
    rw [hVT] at hVk
    simp only [Datum.order]
    intro heq
    have hB : ∃ B : Nat, min ((L : Int) - 53) l = -(B : Int) ∧ 1 ≤ B ∧ (-B : Int) ≤ l := ⟨(-(min ((L : Int) - 53) l)).toNat, by omega, by omega, by omega⟩
    obtain ⟨B, hB, hB1, hBl⟩ := hB
    rw [hB] at heq
    have hc := (Int.compare_eq_eq).1 (Option.some.inj heq)
    rw [signed_eq, signed_eq] at hc
    have hN : 2 ^ (52 - L) * q * 2 ^ ((L : Int) - 53 - -(B : Int)).toNat = k * 2 ^ (l - -(B : Int)).toNat := by
      have : ((2 ^ (52 - L) * q : Nat) : Int) * 2 ^ ((L : Int) - 53 - -(B : Int)).toNat = (k : Int) * 2 ^ (l - -(B : Int)).toNat := by
        cases s
        · simpa using hc
        · simp only [if_true, Int.neg_mul, Int.one_mul] at hc; exact Int.neg_inj.1 hc
      exact_mod_cast this
    -- both as multiples of a power
    have hA : 2 ^ (52 - L) * q * 2 ^ ((L : Int) - 53 - -(B : Int)).toNat = q * 2 ^ (B - 1) := by
      rw [Nat.mul_comm (2 ^ (52 - L)) q, Nat.mul_assoc, ← Nat.pow_add]
      congr 2
      omega
    have hC : k * 2 ^ (l - -(B : Int)).toNat = T * 2 ^ B := by
      have hp := Nat.two_pow_pos (-l).toNat
      have hp2 := Nat.two_pow_pos l.toNat
      have : (k * 2 ^ (l - -(B : Int)).toNat) * 2 ^ l.toNat = (T * 2 ^ B) * 2 ^ l.toNat := by
        have e : (l - -(B : Int)).toNat + (-l).toNat = B + l.toNat := by omega
        calc (k * 2 ^ (l - -(B : Int)).toNat) * 2 ^ l.toNat = (k * 2 ^ l.toNat) * 2 ^ (l - -(B : Int)).toNat := Nat.mul_right_comm _ _ _
          _ = (T * 2 ^ (-l).toNat) * 2 ^ (l - -(B : Int)).toNat := by rw [hVk]
          _ = T * 2 ^ ((l - -(B : Int)).toNat + (-l).toNat) := by rw [Nat.mul_assoc, ← Nat.pow_add, Nat.add_comm]
          _ = (T * 2 ^ B) * 2 ^ l.toNat := by rw [e, Nat.pow_add, Nat.mul_assoc]
      exact Nat.eq_of_mul_eq_mul_right hp2 this
    rw [hA, hC] at hN
    have hBB : (2 : Nat) ^ B = 2 * 2 ^ (B - 1) := by rw [Nat.mul_comm, ← Nat.pow_succ]; congr 1; omega
    rw [hBB, ← Nat.mul_assoc] at hN
    have := Nat.eq_of_mul_eq_mul_right (Nat.two_pow_pos (B - 1)) hN
    omega
/-- What math.Trunc gives of a number. -/
def trw (x : Nat) : Nat := double.write ((double.read x).integral .zero)
/-- The questions of number.Whole. -/
def no1 (x : Nat) : Bool := double.order x (trw x) != some .eq
def no2 (x : Nat) : Bool := double.order x 14114281232179134464 == some .lt
def no3 (x : Nat) : Bool := double.order x 4890909195324358656 == some .gt || double.order x 4890909195324358656 == some .eq
def noW (x : Nat) : Bool := no1 x || no2 x || no3 x
def IsNum (x : Nat) : Prop := ∃ s k l, double.read x = .number s k l
theorem signed0 (s : Bool) (V : Nat) : signed s V 0 = if s then -(V : Int) else V := by
  unfold signed; simp
theorem natAbs_signed (s : Bool) (V : Nat) : (signed s V 0).natAbs = V := by
  rw [signed0]; cases s <;> simp
theorem neg_signed {s : Bool} {V : Nat} (h : V ≠ 0) : decide (signed s V 0 < 0) = s := by
  rw [signed0]
  cases s
  · simp
  · simp; omega
theorem fi_signed {s : Bool} {V : Nat} (h : V ≠ 0) : fi (signed s V 0) = double.nearest s V 0 := by
  unfold fi; rw [natAbs_signed, neg_signed h]
theorem signed_self {n : Int} : signed (decide (n < 0)) n.natAbs 0 = n := by
  rw [signed0]
  by_cases h : n < 0
  · simp [h]; omega
  · simp [h]; omega
theorem toInt_whole {s : Bool} {V kept : Nat} {last : Int} (h0 : V ≠ 0) (hl : -52 ≤ last) (h : V * 2 ^ (-last).toNat = kept * 2 ^ last.toNat) : (Datum.number s kept last).toInt .zero = some (signed s V 0) := by
  unfold Datum.toInt
  rw [integral_whole h0 hl h]
theorem fi_facts {n : Int} (h0 : -9223372036854775808 ≤ n) (h1 : n < 9223372036854775808) : ∃ m : Int, IsNum (fi n) ∧ (noW (fi n) = false → floatToIntVal .f64 (fi n) .i64 = some m) ∧ double.order (fi m) (fi n) = some .eq ∧
    (double.order (fi n) 4890909195324358656 == some .lt) = !(noW (fi n)) ∧
    (-4503599627370496 < n → n < 4503599627370496 → m = n ∧ noW (fi n) = false ∧ ∃ y, double.add (fi n) 4602678819172646912 = some y ∧ IsNum y ∧ noW y = true) := by
  by_cases hn : n = 0
  · subst hn
    have e : fi 0 = 0 := by decide
    rw [e]
    refine ⟨0, ⟨false, 0, -1074, by decide⟩, fun _ => by decide +kernel, by decide +kernel, by decide +kernel, fun _ _ => ⟨rfl, by decide +kernel, 4602678819172646912, by decide +kernel, ⟨false, 2 ^ 52, -53, by decide⟩, by decide +kernel⟩⟩
  · obtain ⟨V, kept, last, hV0, hVb, hnn, hrr, hl11, hl52, hVk, hVe⟩ := nearest_whole (decide (n < 0)) (a := n.natAbs) (by omega) (by omega)
    have hx : fi n = double.nearest (decide (n < 0)) V 0 := hnn
    have hr : double.read (fi n) = .number (decide (n < 0)) kept last := by rw [hx]; exact hrr
    have hm := fi_signed (s := decide (n < 0)) hV0
    obtain ⟨m, hme⟩ : ∃ m, m = signed (decide (n < 0)) V 0 := ⟨_, rfl⟩
    have hmx : fi m = fi n := by rw [hme, hm, hx]
    have ho := order_self hr
    have hmb : -9223372036854775808 ≤ m ∧ m ≤ 9223372036854775808 := by
      rw [hme, signed0]; split <;> omega
    have ht : trw (fi n) = fi n := by
      unfold trw
      rw [hr, integral_whole hV0 hl52 hVk]
      exact hx.symm
    obtain ⟨ht1, ht2⟩ := order_top hr hl11 hl52 hVk
    rw [← hme] at ht1 ht2
    have n1 : no1 (fi n) = false := by unfold no1; rw [ht, ho]; rfl
    have n2 : no2 (fi n) = false := by
      unfold no2; rw [ht2]
      have : compare m (-9223372036854775808) ≠ .lt := by rw [Ne, Int.compare_eq_lt]; omega
      revert this; cases compare m (-9223372036854775808) <;> simp
    have n3 : no3 (fi n) = decide (9223372036854775808 ≤ m) ∧ (double.order (fi n) 4890909195324358656 == some .lt) = decide (m < 9223372036854775808) := by
      unfold no3; rw [ht1]
      rcases Int.lt_trichotomy m 9223372036854775808 with h | h | h
      · have e : compare m 9223372036854775808 = .lt := Int.compare_eq_lt.2 h
        rw [e, decide_eq_false (by omega), decide_eq_true (by omega)]; decide
      · have e : compare m 9223372036854775808 = .eq := Int.compare_eq_eq.2 h
        rw [e, decide_eq_true (by omega), decide_eq_false (by omega)]; decide
      · omega
    have nw : noW (fi n) = decide (9223372036854775808 ≤ m) := by unfold noW; rw [n1, n2, n3.1]; rfl
    refine ⟨m, ⟨_, _, _, hr⟩, ?_, by rw [hmx]; exact ho, ?_, ?_⟩
    · rw [nw]
      intro h
      have h := of_decide_eq_false h
      unfold floatToIntVal
      have : (FloatKind.f64.decode (fi n)).toInt .zero = some m := by
        show (double.read (fi n)).toInt .zero = some m
        rw [hr, toInt_whole hV0 hl52 hVk, hme]
      rw [this]
      exact if_pos ⟨by show (-9223372036854775808 : Int) ≤ m; omega, by show m ≤ (9223372036854775807 : Int); omega⟩
    · rw [n3.2, nw]
      by_cases h : m < 9223372036854775808
      · rw [decide_eq_true h, decide_eq_false (by omega)]; rfl
      · rw [decide_eq_false h, decide_eq_true (by omega)]; rfl
    · intro a1 a2
      have hVn : V = n.natAbs := hVe (by omega)
      have hmn : m = n := by rw [hme, hVn, signed_self]
      refine ⟨hmn, by rw [nw, decide_eq_false (by omega)], ?_⟩
      have hsg : signed (decide (n < 0)) kept (last + 53).toNat = n * 2 ^ 53 := by
        have e1 : (kept : Int) * 2 ^ (last + 53).toNat = (V : Int) * 2 ^ 53 := by
          have : kept * 2 ^ (last + 53).toNat = V * 2 ^ 53 := by
            have hp := Nat.two_pow_pos last.toNat
            refine Nat.eq_of_mul_eq_mul_right hp ?_
            calc kept * 2 ^ (last + 53).toNat * 2 ^ last.toNat = kept * 2 ^ last.toNat * 2 ^ (last + 53).toNat := Nat.mul_right_comm _ _ _
              _ = V * 2 ^ (-last).toNat * 2 ^ (last + 53).toNat := by rw [hVk]
              _ = V * 2 ^ ((-last).toNat + (last + 53).toNat) := by rw [Nat.mul_assoc, ← Nat.pow_add]
              _ = V * 2 ^ 53 * 2 ^ last.toNat := by
                have : (-last).toNat + (last + 53).toNat = 53 + last.toNat := by omega
                rw [this, Nat.pow_add, Nat.mul_assoc]
          exact_mod_cast this
        rw [signed_eq, e1, hVn]
        by_cases h : n < 0
        · simp only [h, decide_true, if_true]
          omega
        · simp only [h, decide_false, Bool.false_eq_true, if_false]
          omega
      have hq : (2 * n + 1).natAbs % 2 = 1 := by omega
      have hqb : (2 * n + 1).natAbs < 2 ^ 53 := by omega
      obtain ⟨k, l, hy, hyo⟩ := half_order (decide (n < 0)) hq hqb
      refine ⟨_, sum_half hr hl52 hsg, ⟨_, _, _, hy⟩, ?_⟩
      unfold noW no1 trw
      rw [hy]
      have : (double.order (double.nearest (decide (n < 0)) (2 ^ 52 * (2 * n + 1).natAbs) (-53)) (double.write ((Datum.number (decide (n < 0)) k l).integral .zero)) != some .eq) = true := by
        simpa using hyo
      rw [this]; rfl
end Go.Proofs.YtodeldmdbeocfaaGreatDoor.Nm
