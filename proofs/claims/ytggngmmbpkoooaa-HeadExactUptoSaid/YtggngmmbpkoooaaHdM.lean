/- Plain laws of heads: what is laid is read back. No program here. -/
import Derived.Test.YtggngmmbpkoooaaHdW
namespace Go.Proofs.Ytggngmmbpkoooaa.Hd
open Go Go.Proofs.Ytggngmmbpkoooaa.Eng
set_option linter.unusedVariables false
set_option linter.unusedSimpArgs false

def u8 (x : Int) : UInt8 := UInt8.ofNat x.toNat
theorem u8_toNat {x : Int} (h : 0 ≤ x) (h' : x ≤ 255) : ((u8 x).toNat : Int) = x := by
  unfold u8
  rw [UInt8.toNat_ofNat']
  omega
theorem u8s_eq : ∀ (l : List Int), (∀ x ∈ l, 0 ≤ x ∧ x ≤ 255) → u8s l = (l.map u8).map bv
  | [], _ => rfl
  | x :: r, h => by
    have hx := h x (by simp)
    have ih := u8s_eq r (fun y hy => h y (by simp [hy]))
    simp only [u8s, List.map_cons] at ih ⊢
    rw [ih]; simp [bv, u8_toNat hx.1 hx.2]
def layB (m n : Int) : List UInt8 := (layI m n).map u8
theorem lay_range {m n : Int} (m0 : 0 ≤ m) (m7 : m ≤ 7) (h0 : 0 ≤ n) : ∀ x ∈ layI m n, 0 ≤ x ∧ x ≤ 255 := by
  have hb := info_bd h0
  intro x hx
  unfold layI at hx
  rcases List.mem_cons.1 hx with rfl | hx
  · omega
  · by_cases h1 : n < 24
    · rw [if_pos h1] at hx; simp at hx
    rw [if_neg h1] at hx
    by_cases h2 : n < 256
    · rw [if_pos h2] at hx; simp at hx; omega
    rw [if_neg h2] at hx
    by_cases h3 : n < 65536
    · rw [if_pos h3] at hx; simp at hx; omega
    rw [if_neg h3] at hx
    by_cases h4 : n < 4294967296
    · rw [if_pos h4] at hx; simp at hx; omega
    rw [if_neg h4] at hx; simp at hx; omega
theorem layB_bv {m n : Int} (m0 : 0 ≤ m) (m7 : m ≤ 7) (h0 : 0 ≤ n) : u8s (layI m n) = (layB m n).map bv := u8s_eq _ (lay_range m0 m7 h0)
theorem layB_len (m n : Int) : (layB m n).length = (layI m n).length := by simp [layB]

/-- the argument's bytes, the highest first -/
def hiB (n : Int) (wide : Nat) : Nat → List UInt8
  | 0 => []
  | t + 1 => hiB n wide t ++ [u8 (n / 256 ^ (wide - 1 - t) % 256)]
theorem hiB_len (n : Int) (wide t : Nat) : (hiB n wide t).length = t := by
  induction t with
  | zero => rfl
  | succ t ih => simp [hiB, ih]
theorem be_hiB {n : Int} (h0 : 0 ≤ n) (wide : Nat) (hn : n < 256 ^ wide) : ∀ t, t ≤ wide → be (hiB n wide t) = n / 256 ^ (wide - t) := by
  intro t
  induction t with
  | zero => intro _; simp [hiB, be]; exact (Int.ediv_eq_zero_of_lt h0 hn).symm
  | succ t ih =>
    intro ht
    have hx : 0 ≤ n / 256 ^ (wide - 1 - t) := Int.ediv_nonneg h0 (Int.le_of_lt (Int.pow_pos (by decide)))
    have e1 : wide - t = (wide - 1 - t) + 1 := by omega
    have e2 : wide - (t + 1) = wide - 1 - t := by omega
    have hd : n / 256 ^ (wide - t) = n / 256 ^ (wide - 1 - t) / 256 := by
      rw [e1, Int.pow_succ, Int.mul_comm, ← Int.ediv_ediv_of_nonneg (by decide)]
      rw [Int.ediv_ediv_of_nonneg (by decide), Int.mul_comm, ← Int.ediv_ediv_of_nonneg (Int.le_of_lt (Int.pow_pos (by decide)))]
    rw [hiB, be_snoc, ih (by omega), u8_toNat (by omega) (by omega), hd, e2]
    omega

theorem readF_arg {c : UInt8} {bs tail : List UInt8} {m i : Int} (hc : (c.toNat : Int) = 32 * m + i) (m0 : 0 ≤ m) (m7 : m < 7) (i0 : 24 ≤ i) (i1 : i ≤ 27) (hb : behindI i = bs.length) :
    readF (c :: (bs ++ tail)) = rHead m i (be bs) (1 + bs.length) (decide (1 + (bs.length : Int) = sizeI (be bs))) 0 := by
  have hM : (c.toNat : Int) / 32 = m := by omega
  have hI : (c.toNat : Int) % 32 = i := by omega
  rw [readF_cons (K := bs.length) (by rw [hI]; exact hb), hM, hI, if_neg (by omega), if_neg (by rw [hb]; simp; omega), if_neg (by omega), if_neg (show ¬ i < 24 by omega), List.take_left, hb]
  congr 1
  exact decide_eq_decide.2 ⟨fun h => by rcases h with h | h | h <;> first | omega | exact h, fun h => .inr (.inr h)⟩
theorem readF_small {c : UInt8} {tail : List UInt8} {m i : Int} (hc : (c.toNat : Int) = 32 * m + i) (m0 : 0 ≤ m) (m7 : m < 8) (i0 : 0 ≤ i) (i1 : i < 24) : readF (c :: tail) = rHead m i i 1 true 0 := by
  have hM : (c.toNat : Int) / 32 = m := by omega
  have hI : (c.toNat : Int) % 32 = i := by omega
  have hb : behindI i = 0 := by unfold behindI; rw [if_pos (.inl (by omega))]
  have hs : sizeI i = 1 := by unfold sizeI infoI; rw [if_pos i1, hb]; rfl
  rw [readF_cons (K := 0) (by rw [hI]; exact hb), hM, hI, if_neg (by omega), if_neg (by rw [hb]; simp; omega), if_neg (by omega), if_pos i1, hb, hs]
  rw [decide_eq_true (by omega)]; rfl
theorem readF_short {c : UInt8} {r : List UInt8} {i : Int} (hI : (c.toNat : Int) % 32 = i) (i0 : 24 ≤ i) (i1 : i ≤ 27) (h : ((c :: r).length : Int) < 1 + behindI i) : readF (c :: r) = rHead 0 0 0 0 false 20 := by
  have hb := behind_bd i
  obtain ⟨K, hK⟩ : ∃ K : Nat, behindI i = K := Int.eq_ofNat_of_zero_le hb.1
  rw [readF_cons (K := K) (by rw [hI]; exact hK), hI, if_neg (by omega), if_pos h]

/-- the five ways of an argument -/
theorem lay_ways {n : Int} (h0 : 0 ≤ n) (hn : n < 18446744073709551616) :
    (n < 24 ∧ infoI n = n) ∨ ∃ wide, (infoI n = 24 ∧ wide = 1 ∨ infoI n = 25 ∧ wide = 2 ∨ infoI n = 26 ∧ wide = 4 ∨ infoI n = 27 ∧ wide = 8) ∧ behindI (infoI n) = (wide : Nat) ∧ n < 256 ^ wide ∧ ∀ m, layI m n = (m * 32 + infoI n) :: (List.range wide).map fun t => n / 256 ^ (wide - 1 - t) % 256 := by
  unfold layI
  by_cases h1 : n < 24
  · exact .inl ⟨h1, by unfold infoI; rw [if_pos h1]⟩
  · right
    by_cases h2 : n < 256
    · have hi : infoI n = 24 := by unfold infoI; rw [if_neg h1, if_pos h2]
      exact ⟨1, by simp [hi], by rw [hi]; rfl, by simpa using h2, fun m => by rw [if_neg h1, if_pos h2, hi]; simp [List.range_succ]⟩
    by_cases h3 : n < 65536
    · have hi : infoI n = 25 := by unfold infoI; rw [if_neg h1, if_neg h2, if_pos h3]
      exact ⟨2, by simp [hi], by rw [hi]; rfl, by simpa using h3, fun m => by rw [if_neg h1, if_neg h2, if_pos h3, hi]; simp [List.range_succ]⟩
    by_cases h4 : n < 4294967296
    · have hi : infoI n = 26 := by unfold infoI; rw [if_neg h1, if_neg h2, if_neg h3, if_pos h4]
      exact ⟨4, by simp [hi], by rw [hi]; rfl, by simpa using h4, fun m => by rw [if_neg h1, if_neg h2, if_neg h3, if_pos h4, hi]; simp [List.range_succ]⟩
    · have hi : infoI n = 27 := by unfold infoI; rw [if_neg h1, if_neg h2, if_neg h3, if_neg h4]
      exact ⟨8, by simp [hi], by rw [hi]; rfl, by simpa using hn, fun m => by rw [if_neg h1, if_neg h2, if_neg h3, if_neg h4, hi]; simp [List.range_succ]⟩
theorem hiB_eq (n : Int) (wide : Nat) : ∀ t, hiB n wide t = ((List.range t).map fun t => n / 256 ^ (wide - 1 - t) % 256).map u8 := by
  intro t
  induction t with
  | zero => rfl
  | succ t ih => rw [hiB, ih, List.range_succ]; simp
theorem lay_size {n : Int} (h0 : 0 ≤ n) (hn : n < 18446744073709551616) (m : Int) : ((layI m n).length : Int) = sizeI n := by
  rcases lay_ways h0 hn with ⟨h, hi⟩ | ⟨wide, hw, hb, hlt, hl⟩
  · unfold layI sizeI behindI; rw [if_pos h, if_pos (.inl (by omega))]; rfl
  · rw [hl]; unfold sizeI; rw [hb]; simp; omega
theorem layB_ways {m n : Int} (m0 : 0 ≤ m) (m7 : m ≤ 7) (h0 : 0 ≤ n) (hn : n < 18446744073709551616) :
    ∃ c : UInt8, (c.toNat : Int) = 32 * m + infoI n ∧ ((n < 24 ∧ infoI n = n ∧ layB m n = [c]) ∨ ∃ wide, 24 ≤ infoI n ∧ infoI n ≤ 27 ∧ behindI (infoI n) = (wide : Nat) ∧ n < 256 ^ wide ∧ layB m n = c :: hiB n wide wide) := by
  have hb := info_bd h0
  refine ⟨u8 (m * 32 + infoI n), by rw [u8_toNat (by omega) (by omega)]; omega, ?_⟩
  rcases lay_ways h0 hn with ⟨h, hi⟩ | ⟨wide, hw, hb, hlt, hl⟩
  · exact .inl ⟨h, hi, by unfold layB layI; rw [if_pos h]; rfl⟩
  · refine .inr ⟨wide, by omega, by omega, hb, hlt, ?_⟩
    unfold layB; rw [hl, hiB_eq]; rfl
/-- P2.3: what is laid is read back, whatever stands behind it. -/
theorem readF_lay {m n : Int} (m0 : 0 ≤ m) (m7 : m < 7) (h0 : 0 ≤ n) (hn : n < 18446744073709551616) (tail : List UInt8) : readF (layB m n ++ tail) = rHead m (infoI n) n (layB m n).length true 0 := by
  obtain ⟨c, hc, hw⟩ := layB_ways m0 (by omega) h0 hn
  rcases hw with ⟨h, hi, hl⟩ | ⟨wide, i0, i1, hb, hlt, hl⟩
  · rw [hl]
    show readF (c :: tail) = _
    rw [hi] at hc ⊢
    exact readF_small hc m0 (by omega) h0 h
  · rw [hl]
    show readF (c :: (hiB n wide wide ++ tail)) = _
    rw [readF_arg hc m0 m7 i0 i1 (by rw [hiB_len]; exact hb), be_hiB h0 wide hlt wide (Nat.le_refl _)]
    simp only [Nat.sub_self, Int.pow_zero, Int.ediv_one, hiB_len, List.length_cons]
    have hs : sizeI n = 1 + wide := by unfold sizeI; rw [hb]
    rw [decide_eq_true hs.symm]
    congr 3; simp; omega
/-- each shorter beginning is too short. -/
theorem readF_cut {m n : Int} (m0 : 0 ≤ m) (m7 : m ≤ 7) (h0 : 0 ≤ n) (hn : n < 18446744073709551616) {k : Nat} (hk : k < (layB m n).length) : readF ((layB m n).take k) = rHead 0 0 0 0 false 20 := by
  obtain ⟨c, hc, hw⟩ := layB_ways m0 m7 h0 hn
  rcases hw with ⟨h, hi, hl⟩ | ⟨wide, i0, i1, hb, hlt, hl⟩
  · rw [hl] at hk ⊢
    have : k = 0 := by simpa using hk
    subst this; rfl
  · rw [hl] at hk ⊢
    cases k with
    | zero => rfl
    | succ k =>
      rw [List.take_succ_cons]
      refine readF_short (i := infoI n) (by omega) i0 i1 ?_
      rw [hb]; simp [hiB_len] at hk ⊢; omega
/-- in a longer way it is read as that argument too, and not as the shortest. -/
theorem readF_long {m n : Int} {wide : Nat} {i : Int} (m0 : 0 ≤ m) (m7 : m < 7) (h0 : 0 ≤ n) (hn : n < 256 ^ wide) (i0 : 24 ≤ i) (i1 : i ≤ 27) (hb : behindI i = wide) (hs : sizeI n ≠ 1 + wide) (tail : List UInt8) :
    readF (u8 (32 * m + i) :: (hiB n wide wide ++ tail)) = rHead m i n (1 + wide) false 0 := by
  have hc : ((u8 (32 * m + i)).toNat : Int) = 32 * m + i := u8_toNat (by omega) (by omega)
  rw [readF_arg hc m0 m7 i0 i1 (by rw [hiB_len]; exact hb), be_hiB h0 wide hn wide (Nat.le_refl _)]
  simp only [Nat.sub_self, Int.pow_zero, Int.ediv_one, hiB_len]
  rw [decide_eq_false (fun h => hs h.symm)]
theorem wide_fits {n : Int} {wide : Nat} {i : Int} (h0 : 0 ≤ n) (hn : n < 18446744073709551616) (hw : i = 24 ∧ wide = 1 ∨ i = 25 ∧ wide = 2 ∨ i = 26 ∧ wide = 4 ∨ i = 27 ∧ wide = 8) (h : sizeI n < 1 + wide) : n < 256 ^ wide := by
  rcases lay_ways h0 hn with ⟨h', _⟩ | ⟨wd, hwd, hb, hlt, _⟩
  · rcases hw with ⟨_, rfl⟩ | ⟨_, rfl⟩ | ⟨_, rfl⟩ | ⟨_, rfl⟩ <;> simp <;> omega
  · unfold sizeI at h; rw [hb] at h
    rcases hw with ⟨_, rfl⟩ | ⟨_, rfl⟩ | ⟨_, rfl⟩ | ⟨_, rfl⟩ <;> rcases hwd with ⟨_, rfl⟩ | ⟨_, rfl⟩ | ⟨_, rfl⟩ | ⟨_, rfl⟩ <;> simp at hlt h ⊢ <;> omega
end Go.Proofs.Ytggngmmbpkoooaa.Hd
