/- Contracts of the document's own answer for heads, for every input. -/
import Derived.Test.YtggngmmbpkoooaaHdL
import Derived.Test.YtggngmmbpkoooaaHdN
import Derived.Test.YtggngmmbpkoooaaEngEq
namespace Go.Proofs.Ytggngmmbpkoooaa.Hd
open Go Go.Proofs.Ytggngmmbpkoooaa.Eng
set_option linter.unusedVariables false
set_option linter.unusedSimpArgs false
set_option maxRecDepth 4000
theorem be_cons (c : UInt8) : ∀ (l : List UInt8), be (c :: l) = (c.toNat : Int) * 256 ^ l.length + be l := by
  have key : ∀ (n : Nat) (l : List UInt8), l.length = n → be (c :: l) = (c.toNat : Int) * 256 ^ l.length + be l := by
    intro n
    induction n with
    | zero => intro l h; rw [List.eq_nil_of_length_eq_zero h]; simp [be]
    | succ n ih =>
      intro l h
      rcases List.eq_nil_or_concat l with rfl | ⟨l', x, rfl⟩
      · simp at h
      simp only [List.concat_eq_append] at *
      rw [← List.cons_append, be_snoc, be_snoc, ih l' (by simpa using h), List.length_append, List.length_singleton, Int.pow_succ, Int.add_mul, Int.mul_assoc]
      omega
  exact fun l => key _ l rfl
theorem mod_step {a : Int} (h : 0 ≤ a) (t : Nat) : a % 256 ^ (t + 1) = a / 256 ^ t % 256 * 256 ^ t + a % 256 ^ t := by
  obtain ⟨k, rfl⟩ := Int.eq_ofNat_of_zero_le h
  have := Nat.mod_mul (x := k) (a := 256 ^ t) (b := 256)
  rw [← Nat.pow_succ] at this
  have h2 : ((k % 256 ^ (t + 1) : Nat) : Int) = ((k % 256 ^ t + 256 ^ t * (k / 256 ^ t % 256) : Nat) : Int) := by exact_mod_cast this
  push_cast at h2
  rw [h2, Int.mul_comm (256 ^ t)]
  omega
theorem div_step {a : Int} (h : 0 ≤ a) (t : Nat) : a / 256 ^ t / 256 = a / 256 ^ (t + 1) := by
  rw [Int.pow_succ, Int.ediv_ediv_of_nonneg (Int.le_of_lt (Int.pow_pos (by decide)))]
/-- the cells of an argument that is being laid from its end. -/
theorem fx_set {size t : Nat} {X : List UInt8} {x : UInt8} (hX : X.length = t) (ht : t < size) :
    (((List.replicate (size - t) (0 : UInt8) ++ X).map bv).set (size - 1 - t) (bv x)) = (List.replicate (size - (t + 1)) (0 : UInt8) ++ x :: X).map bv := by
  rw [← List.map_set]
  congr 1
  have e : size - t = (size - (t + 1)) + 1 := by omega
  rw [List.set_append, if_pos (by simp; omega), e, List.replicate_succ']
  rw [List.set_append, if_neg (by simp; omega)]
  simp
  have : size - 1 - t - (size - (t + 1)) = 0 := by omega
  rw [this]; rfl
def FixOut (w : World) (n : Int) (size : Nat) (e : Ending) (w' : World) : Prop :=
  ∃ lb X, e = .returned (.tuple #[.slice (some ⟨lb, 0, none⟩) size size, .bool (n / 256 ^ size == 0)]) ∧ Blk w' lb 5 (X.map bv) ∧ X.length = size ∧ be X = n % 256 ^ size ∧ Ch No w w'

set_option maxHeartbeats 2000000 in
theorem fixed_any (n : Int) (size : Nat) (h0 : 0 ≤ n) (hn : n < 18446744073709551616) (hs : size ≤ 16) (w0 : World) :
    Calls Try.prog 25 #[.int .u64 n, .int .i64 size] w0 fun e w' => FixOut w0 n size e w' := by
  have hK : Ch No w0 w0 := Ch.refl w0
  refine calls @Try.func25 rfl @Try.ntmps25 rfl ?_
  show JC _ _ _ _ _ [(0, .int .u64 n), (1, .int .i64 size)] _
  refine JC.seq ?_
  refine JC.region ?_
  refine JL.val rfl (Run.assign .const) ?_
  refine JL.val rfl (Run.assign .const) ?_
  refine JL.nil ?_
  refine JE.seq ?_
  refine JC.seq ?_
  refine JC.region ?_
  refine JL.val rfl (Run.move (.tmp (.there rfl (.there rfl (.there rfl .here))))) ?_
  refine JL.mk rfl (.tmp .here) (.tmp .here) (run_mkBL (n := size) (c := size) (Nat.le_refl _) @Try.underlying53 info_u8 (by omega)) ?_
  intro b1 w2 hg3 hc4 Bb1
  have ge_b1 : _ ≤ b1 := Nat.le_trans hK.size hg3
  replace hK := hK.no hc4
  have B0 : Blk w2 b1 5 ((List.replicate (size - 0) (0 : UInt8) ++ []).map bv) := by simpa [bv] using Bb1
  refine JL.val rfl (Run.assign (.tmp .here)) ?_
  refine JL.nil ?_
  refine JE.seq ?_
  refine JC.seq ?_
  refine JC.seq ?_
  refine JC.region ?_
  refine JL.val rfl (Run.move (.tmp (.there rfl (.there rfl (.there rfl (.there rfl (.there rfl (.there rfl .here)))))))) ?_
  refine JL.val rfl (Run.sub (.tmp .here) .const (wrap_i64 (by omega))) ?_
  refine JL.val rfl (Run.assign (.tmp .here)) ?_
  refine JL.nil ?_
  refine JE.seq ?_
  refine JC.block ?_
  refine JC.loop (α := Nat × List UInt8) (fun ⟨t, X⟩ => [(0, .int .u64 (n / 256 ^ t)), (6, .slice (some ⟨b1, 0, none⟩) size size), (7, .int .i64 ((size : Int) - 1 - (t : Int)))]) (fun ⟨t, X⟩ w => t ≤ size ∧ X.length = t ∧ be X = n % 256 ^ t ∧ Blk w b1 5 ((List.replicate (size - t) (0 : UInt8) ++ X).map bv) ∧ Ch No w0 w) (fun ⟨t, X⟩ => size - t) (0, []) ⟨Nat.zero_le _, rfl, by simp [be], B0, hK⟩ (.conse (.there rfl (.there rfl (.there rfl (.there rfl (.there rfl (.there rfl (.there rfl (.there rfl .here)))))))) (by simp) (.cons (.there rfl (.there rfl (.there rfl .here))) (.conse .here (by simp) .nil))) ?_
  rintro ⟨t, X⟩ w5 m6 ⟨ht, hX, hbe, B0, hK⟩ hmu7
  show JC _ _ _ _ _ [(0, .int .u64 (n / 256 ^ t)), (6, .slice (some ⟨b1, 0, none⟩) size size), (7, .int .i64 ((size : Int) - 1 - (t : Int)))] _
  refine JC.seq ?_
  refine JC.seq ?_
  refine JC.region ?_
  refine JL.val rfl (Run.move (.tmp (.there rfl (.there rfl .here)))) ?_
  refine JL.val rfl (Run.geq (.tmp .here) .const) ?_
  refine JL.nil ?_
  refine JE.seq ?_
  refine JC.cond (.tmp .here) (fun hge => ?_) (fun hge => ?_)
  · have hge := of_decide_eq_true hge
    have hts : t < size := by omega
    have hq : 0 ≤ n / 256 ^ t := Int.ediv_nonneg h0 (Int.le_of_lt (Int.pow_pos (by decide)))
    have hq1 : n / 256 ^ t ≤ n := Int.ediv_le_self _ h0
    obtain ⟨q, hqq⟩ : ∃ q, q = n / 256 ^ t := ⟨_, rfl⟩
    rw [← hqq] at hq hq1
    rw [← hqq]
    refine JC.skip ?_
    refine JE.seq ?_
    refine JC.seq ?_
    refine JC.block ?_
    refine JC.seq ?_
    refine JC.region ?_
    refine JL.val rfl (Run.move (.tmp (.there rfl (.there rfl (.there rfl .here))))) ?_
    refine JL.val rfl (Run.move (.tmp (.there rfl (.there rfl (.there rfl (.there rfl (.there rfl .here))))))) ?_
    refine JL.val rfl (Run.move (.tmp (.there rfl (.there rfl (.there rfl (.there rfl .here)))))) ?_
    refine JL.val rfl (Run.rem (.tmp .here) .const (by decide) (Int.tmod_eq_emod_of_nonneg (by omega))) ?_
    refine JL.val rfl (Run.conv @Try.underlying50 @Try.underlying5 (.tmp .here) ((IntKind.wrap_u8 _).trans (Int.emod_eq_of_lt (by omega) (by omega)))) ?_
    refine JL.val rfl (Run.indexAddr (m := size - 1 - t) @Try.underlying53 (@Try.sizeOf5 _) (.tmp (.there rfl (.there rfl (.there rfl (.there rfl .here))))) (.tmp (.there rfl (.there rfl (.there rfl .here)))) (by omega) (by omega) rfl) ?_
    refine JL.storeB (j := 0 + (size - 1 - t) * 1) (@Try.sizeOf5 _) (.tmp .here) (.tmp (.there rfl .here)) (by rfl) (by rfl) B0 (by rw [Nat.blt_eq]; simp; omega) ?_
    intro w8 hc9 hb10
    replace hK := hK.own hc9 ge_b1
    replace B0 := hb10; clear hb10
    rw [show Value.int .u8 (q % 256) = bv (u8 (q % 256)) from one_bv (by omega) (by omega), show 0 + (size - 1 - t) * 1 = size - 1 - t from by omega, fx_set hX hts] at B0
    refine JL.nil ?_
    refine JE.seq ?_
    refine JC.region ?_
    refine JL.val rfl (Run.move (.tmp (.there rfl (.there rfl (.there rfl (.there rfl (.there rfl (.there rfl (.there rfl (.there rfl .here)))))))))) ?_
    refine JL.val rfl (Run.quo (.tmp .here) .const (by decide) (show IntKind.u64.wrap (Int.tdiv (q) 256) = q / 256 from by rw [Int.tdiv_eq_ediv_of_nonneg (by omega)]; exact wrap_u64 (by omega))) ?_
    refine JL.val rfl (Run.assign (.tmp .here)) ?_
    refine JL.nil ?_
    refine JE.blk ?_
    refine JE.seq ?_
    refine JC.region ?_
    refine JL.val rfl (Run.move (.tmp (.there rfl (.there rfl (.there rfl (.there rfl (.there rfl (.there rfl (.there rfl (.there rfl (.there rfl (.there rfl (.there rfl (.there rfl (.there rfl .here))))))))))))))) ?_
    refine JL.val rfl (Run.sub (.tmp .here) .const (wrap_i64 (by omega))) ?_
    refine JL.val rfl (Run.assign (.tmp .here)) ?_
    refine JL.nil ?_
    exact JE.again (t + 1, u8 (q % 256) :: X) (.conse (.there rfl (.there rfl (.there rfl .here))) (by rw [hqq, div_step h0]) (.cons (.there rfl (.there rfl (.there rfl (.there rfl (.there rfl (.there rfl (.there rfl (.there rfl (.there rfl (.there rfl (.there rfl (.there rfl (.there rfl (.there rfl (.there rfl .here))))))))))))))) (.conse .here (congrArg (Value.int .i64) (by simp; omega)) .nil))) (⟨by omega, by simp [hX], by rw [be_cons, hX, hbe, u8_toNat (by omega) (by omega), mod_step h0, hqq], B0, hK⟩) (by simp only [hmu7]; omega)
  · have hge := of_decide_eq_false hge
    obtain rfl : size = t := by omega
    refine JC.exit ?_
    refine JE.exit_seq ?_
    refine JE.exit_seq ?_
    refine JE.exit_here ?_
    refine JE.seq ?_
    refine JC.seq ?_
    refine JC.region ?_
    refine JL.val rfl (Run.move (.tmp (.there rfl (.there rfl (.there rfl .here))))) ?_
    refine JL.val rfl (Run.move (.tmp (.there rfl (.there rfl (.there rfl .here))))) ?_
    refine JL.val rfl (Run.eql (.tmp .here) .const) ?_
    refine JL.val rfl (Run.assign (.tmp (.there rfl (.there rfl .here)))) ?_
    refine JL.val rfl (Run.assign (.tmp (.there rfl .here))) ?_
    refine JL.nil ?_
    refine JE.keep (L := _) (.cons .here (.cons (.there rfl .here) .nil)) ?_
    refine JE.seq ?_
    refine JC.ret ?_
    refine JE.ret2 @Try.results25 (.there rfl .here) .here ?_
    exact ⟨b1, X, rfl, by simpa using B0, hX, hbe, hK⟩


theorem fits_info {n : Int} {i : Int} {sz : Nat} (h0 : 0 ≤ n) (hw : i = 24 ∧ sz = 1 ∨ i = 25 ∧ sz = 2 ∨ i = 26 ∧ sz = 4 ∨ i = 27 ∧ sz = 8) (h24 : 24 ≤ n) (hf : n < 256 ^ sz) (hl : i ≤ infoI n) : infoI n = i := by
  unfold infoI at *
  rcases hw with ⟨rfl, rfl⟩ | ⟨rfl, rfl⟩ | ⟨rfl, rfl⟩ | ⟨rfl, rfl⟩ <;> simp at hf <;> repeat' split at hl
  all_goals (repeat' split) <;> omega
theorem misfit_info {n : Int} {i : Int} {sz : Nat} (h0 : 0 ≤ n) (hn : n < 18446744073709551616) (hw : i = 24 ∧ sz = 1 ∨ i = 25 ∧ sz = 2 ∨ i = 26 ∧ sz = 4 ∨ i = 27 ∧ sz = 8) (h24 : 24 ≤ n) (hf : ¬ n < 256 ^ sz) : i + 1 ≤ infoI n := by
  unfold infoI
  rcases hw with ⟨rfl, rfl⟩ | ⟨rfl, rfl⟩ | ⟨rfl, rfl⟩ | ⟨rfl, rfl⟩ <;> simp at hf
  all_goals (repeat' split) <;> omega
theorem div_zero_iff {n : Int} (h0 : 0 ≤ n) (sz : Nat) : (n / 256 ^ sz == 0) = decide (n < 256 ^ sz) := by
  have hp : (0 : Int) < 256 ^ sz := Int.pow_pos (by decide)
  rw [Bool.eq_iff_iff, beq_iff_eq, decide_eq_true_iff]
  constructor
  · intro h
    have := Int.lt_ediv_add_one_mul_self n hp
    rw [h] at this; simpa using this
  · exact fun h => Int.ediv_eq_zero_of_lt h0 h
/-- the shortest way, by its bytes. -/
theorem layB_is {m n : Int} {X : List UInt8} {sz : Nat} {i : Int} (m0 : 0 ≤ m) (m7 : m ≤ 7) (h0 : 0 ≤ n) (hn : n < 18446744073709551616) (hw : i = 24 ∧ sz = 1 ∨ i = 25 ∧ sz = 2 ∨ i = 26 ∧ sz = 4 ∨ i = 27 ∧ sz = 8) (hi : infoI n = i) (h24 : 24 ≤ n) (hX : X.length = sz) (hb : be X = n) : layB m n = u8 (32 * m + i) :: X := by
  obtain ⟨c, hc, h | ⟨wide, i0, i1, hbe, hlt, hl⟩⟩ := layB_ways m0 m7 h0 hn
  · omega
  · have hwd : wide = sz := by
      rw [hi] at hbe
      rcases hw with ⟨rfl, rfl⟩ | ⟨rfl, rfl⟩ | ⟨rfl, rfl⟩ | ⟨rfl, rfl⟩ <;> simp [behindI] at hbe <;> omega
    rw [hl, hwd]
    have h1 : c = u8 (32 * m + i) := UInt8.toNat_inj.1 (by have := u8_toNat (x := 32 * m + i) (by omega) (by omega); omega)
    have h2 : hiB n sz sz = X := by
      rw [← hb]; exact hiB_be hX
    rw [h1, h2]
theorem layB_lt {m n : Int} (h0 : 0 ≤ n) (h : n < 24) : layB m n = [u8 (32 * m + n)] := by
  unfold layB layI infoI
  rw [if_pos h, if_pos h, Int.mul_comm]; rfl

set_option maxHeartbeats 2000000 in
theorem rlay_any (m n : Int) (m0 : 0 ≤ m) (m7 : m ≤ 7) (h0 : 0 ≤ n) (hn : n < 18446744073709551616) (w0 : World) :
    Calls Try.prog 7 #[.int .i64 m, .int .u64 n] w0 fun e w' => ∃ v, e = .returned v ∧ SlB w' v (layB m n) ∧ (∀ k, ownB v k → w0.heap.size ≤ k ∧ k < w'.heap.size) ∧ Ch No w0 w' := by
  have hK : Ch No w0 w0 := Ch.refl w0
  refine calls @Try.func7 rfl @Try.ntmps7 rfl ?_
  show JC _ _ _ _ _ [(0, .int .i64 m), (1, .int .u64 n)] _
  refine JC.seq ?_
  refine JC.region ?_
  refine JL.val rfl (Run.assign .const) ?_
  refine JL.nil ?_
  refine JE.seq ?_
  refine JC.seq ?_
  refine JC.seq ?_
  refine JC.region ?_
  refine JL.val rfl (Run.move (.tmp (.there rfl .here))) ?_
  refine JL.val rfl (Run.lss (.tmp .here) .const) ?_
  refine JL.val rfl (Run.move (.tmp .here)) ?_
  refine JL.gyesb (oj := _) (by rfl) (by rfl) .here (decide_eq_false (by omega)) ?_
  refine JL.val rfl (Run.move (.tmp (.there rfl (.there rfl (.there rfl (.there rfl .here)))))) ?_
  refine JL.gyesb (oj := _) (by rfl) (by rfl) (.there rfl .here) (decide_eq_false (by omega)) ?_
  refine JL.val rfl (Run.gtr (.tmp .here) .const) ?_
  refine JL.val rfl (Run.pickF (.tmp (.there rfl (.there rfl .here))) (decide_eq_false (by omega)) (.tmp .here)) ?_
  refine JL.nil ?_
  refine JE.seq ?_
  refine JC.condF (.tmp .here) (by simp; omega) ?_
  refine JC.skip ?_
  refine JE.seq ?_
  refine JC.seq ?_
  refine JC.region ?_
  refine JL.val rfl (Run.move (.tmp (.there rfl (.there rfl (.there rfl (.there rfl (.there rfl (.there rfl (.there rfl .here))))))))) ?_
  refine JL.val rfl (Run.mul .const (.tmp .here) (wrap_i64 (by omega))) ?_
  refine JL.val rfl (Run.conv @Try.underlying3 @Try.underlying5 (.tmp .here) ((IntKind.wrap_u8 _).trans (Int.emod_eq_of_lt (by omega) (by omega)))) ?_
  refine JL.val rfl (Run.assign (.tmp .here)) ?_
  refine JL.nil ?_
  refine JE.keep (L := _) (.cons .here (.cons (.there rfl (.there rfl (.there rfl (.there rfl (.there rfl (.there rfl (.there rfl (.there rfl (.there rfl (.there rfl .here)))))))))) (.cons (.there rfl (.there rfl (.there rfl (.there rfl (.there rfl (.there rfl (.there rfl (.there rfl (.there rfl (.there rfl (.there rfl (.there rfl .here)))))))))))) .nil))) ?_
  refine JE.seq ?_
  refine JC.seq ?_
  refine JC.seq ?_
  refine JC.region ?_
  refine JL.val rfl (Run.move (.tmp (.there rfl (.there rfl .here)))) ?_
  refine JL.val rfl (Run.lss (.tmp .here) .const) ?_
  refine JL.nil ?_
  refine JE.seq ?_
  refine JC.cond (.tmp .here) (fun h24 => ?_) (fun h24 => ?_)
  · have h24 := of_decide_eq_true h24
    refine JC.seq ?_
    refine JC.region ?_
    refine JL.val rfl (Run.move (.tmp (.there rfl (.there rfl .here)))) ?_
    refine JL.val rfl (Run.move (.tmp (.there rfl (.there rfl (.there rfl (.there rfl (.there rfl .here))))))) ?_
    refine JL.val rfl (Run.conv @Try.underlying50 @Try.underlying5 (.tmp .here) ((IntKind.wrap_u8 _).trans (Int.emod_eq_of_lt (by omega) (by omega)))) ?_
    refine JL.val rfl (Run.add (.tmp (.there rfl (.there rfl .here))) (.tmp .here) ((IntKind.wrap_u8 _).trans (Int.emod_eq_of_lt (by omega) (by omega)))) ?_
    refine JL.lit (os := [.tmp 24]) rfl @Try.underlying53 (@Try.sizeOf5 _) (@Try.zeroValue5 _) (by rfl) (by rfl) rfl rfl (by rfl) (.cons (.tmp .here) .nil) (by simp [Value.cells]) ?_
    intro b1 w2 hg3 hc4 Bb1
    have ge_b1 : _ ≤ b1 := Nat.le_trans hK.size hg3
    replace hK := hK.no hc4
    refine JL.val rfl (Run.assign (.tmp .here)) ?_
    refine JL.nil ?_
    refine JE.keep (L := _) (.cons .here (.cons (.there rfl (.there rfl (.there rfl (.there rfl (.there rfl (.there rfl (.there rfl (.there rfl .here)))))))) (.cons (.there rfl (.there rfl (.there rfl (.there rfl (.there rfl (.there rfl (.there rfl (.there rfl (.there rfl (.there rfl .here)))))))))) .nil))) ?_
    refine JE.seq ?_
    refine JC.ret ?_
    refine JE.ret_seq ?_
    rw [one_bv (by omega) (by omega)] at Bb1
    refine JE.ret1 @Try.results7 .here ?_
    exact ⟨_, rfl, by rw [layB_lt h0 h24]; exact SlB.ofBlk (l := [u8 (32 * m + n)]) Bb1 rfl (by omega) (by omega), fun k hk => by have h2 : k = b1 := hk; rw [h2]; exact ⟨ge_b1, Bb1.lt⟩, hK⟩
  · have h24 := of_decide_eq_false h24
    refine JC.skip ?_
    refine JE.seq ?_
    refine JC.seq ?_
    refine JC.region ?_
    refine JL.val rfl (Run.assign .const) ?_
    refine JL.nil ?_
    refine JE.seq ?_
    refine JC.seq ?_
    refine JC.seq ?_
    refine JC.region ?_
    refine JL.val rfl (Run.assign .const) ?_
    refine JL.nil ?_
    refine JE.seq ?_
    refine JC.block ?_
    refine JC.loop (α := Nat × Nat) (fun ⟨i, sz⟩ => [(1, .int .u64 n), (5, .int .u8 (32 * m)), (6, .int .i64 (sz : Int)), (7, .int .i64 (i : Int))]) (fun ⟨i, sz⟩ w => ((i : Int) = 24 ∧ sz = 1 ∨ (i : Int) = 25 ∧ sz = 2 ∨ (i : Int) = 26 ∧ sz = 4 ∨ (i : Int) = 27 ∧ sz = 8 ∨ (i : Int) = 28 ∧ sz = 16) ∧ (i : Int) ≤ infoI n ∧ Ch No w0 w) (fun ⟨i, sz⟩ => 28 - i) (24, 1) ⟨.inl ⟨rfl, rfl⟩, by unfold infoI; (repeat' split) <;> omega, hK⟩ (.cons (.there rfl (.there rfl (.there rfl (.there rfl (.there rfl (.there rfl .here)))))) (.cons (.there rfl (.there rfl (.there rfl (.there rfl .here)))) (.conse (.there rfl .here) (rfl) (.conse .here (rfl) .nil)))) ?_
    rintro ⟨i, sz⟩ w5 m6 ⟨hi, hle, hK⟩ hmu7
    show JC _ _ _ _ _ [(1, .int .u64 n), (5, .int .u8 (32 * m)), (6, .int .i64 (sz : Int)), (7, .int .i64 (i : Int))] _
    have hib := (info_bd h0).2
    refine JC.seq ?_
    refine JC.seq ?_
    refine JC.region ?_
    refine JL.val rfl (Run.move (.tmp (.there rfl (.there rfl (.there rfl .here))))) ?_
    refine JL.val rfl (Run.lss (.tmp .here) .const) ?_
    refine JL.nil ?_
    refine JE.seq ?_
    refine JC.cond (.tmp .here) (fun h28 => ?_) (fun h28 => ?_)
    · have h28 := of_decide_eq_true h28
      have hj : (i : Int) = 24 ∧ sz = 1 ∨ (i : Int) = 25 ∧ sz = 2 ∨ (i : Int) = 26 ∧ sz = 4 ∨ (i : Int) = 27 ∧ sz = 8 := by omega
      refine JC.skip ?_
      refine JE.seq ?_
      refine JC.seq ?_
      refine JC.block ?_
      refine JC.seq ?_
      refine JC.region ?_
      refine JL.val rfl (Run.move (.tmp (.there rfl (.there rfl .here)))) ?_
      refine JL.val rfl (Run.move (.tmp (.there rfl (.there rfl (.there rfl (.there rfl (.there rfl .here))))))) ?_
      refine JL.call rfl (Run.call @Try.call25 (.cons (.tmp (.there rfl .here)) (.cons (.tmp .here) .nil))) (fixed_any n sz h0 hn (by omega) _) ?_
      rintro e w8 ⟨lb, X, rfl, BX, hX, hbe, hc1⟩
      refine JRet.ret ?_
      replace hK := hK.no hc1
      refine JL.val rfl (Run.move (.tmp .here)) ?_
      refine JL.val rfl (Run.extract (.tmp .here) (by rfl)) ?_
      refine JL.val rfl (Run.extract (.tmp (.there rfl .here)) (by rfl)) ?_
      refine JL.val rfl (Run.assign (.tmp (.there rfl .here))) ?_
      refine JL.val rfl (Run.assign (.tmp (.there rfl .here))) ?_
      refine JL.nil ?_
      refine JE.seq ?_
      refine JC.seq ?_
      refine JC.seq ?_
      refine JC.region ?_
      refine JL.val rfl (Run.move (.tmp .here)) ?_
      refine JL.nil ?_
      refine JE.seq ?_
      refine JC.cond (.tmp .here) (fun hok => ?_) (fun hok => ?_)
      · rw [div_zero_iff h0] at hok
        have hok := of_decide_eq_true hok
        have hin := fits_info h0 hj (by omega) hok hle
        refine JC.seq ?_
        refine JC.region ?_
        refine JL.val rfl (Run.move (.tmp (.there rfl (.there rfl (.there rfl (.there rfl (.there rfl (.there rfl (.there rfl (.there rfl (.there rfl (.there rfl (.there rfl (.there rfl .here)))))))))))))) ?_
        refine JL.val rfl (Run.move (.tmp (.there rfl (.there rfl (.there rfl (.there rfl (.there rfl (.there rfl (.there rfl (.there rfl (.there rfl (.there rfl (.there rfl (.there rfl (.there rfl (.there rfl (.there rfl .here))))))))))))))))) ?_
        refine JL.val rfl (Run.conv @Try.underlying3 @Try.underlying5 (.tmp .here) ((IntKind.wrap_u8 _).trans (Int.emod_eq_of_lt (by omega) (by omega)))) ?_
        refine JL.val rfl (Run.add (.tmp (.there rfl (.there rfl .here))) (.tmp .here) ((IntKind.wrap_u8 _).trans (Int.emod_eq_of_lt (by omega) (by omega)))) ?_
        refine JL.lit (os := [.tmp 40]) rfl @Try.underlying53 (@Try.sizeOf5 _) (@Try.zeroValue5 _) (by rfl) (by rfl) rfl rfl (by rfl) (.cons (.tmp .here) .nil) (by simp [Value.cells]) ?_
        intro b9 w10 hg11 hc12 Bb9
        have lt_lb_b9 : lb < b9 := Nat.lt_of_lt_of_le BX.lt hg11
        have ge_b9 : _ ≤ b9 := Nat.le_trans hK.size hg11
        replace BX := BX.no hc12
        replace hK := hK.no hc12
        have hO : Owns w10 w0.heap.size 5 1 (.slice (some ⟨b9, 0, none⟩) 1 1) 1 ([u8 (32 * m + (i : Int))].map bv) := by have h := Owns.ofBlk (sz := 1) (n := 1) (cap := 1) Bb9 ge_b9 rfl (by omega) (by omega); rw [one_bv (by omega) (by omega)] at h; exact h
        have hSX : SlB w10 (.slice (some ⟨lb, 0, none⟩) sz sz) X := SlB.ofBlk BX hX (by omega) (by omega)
        refine JL.val rfl (Run.move (.tmp (.there rfl (.there rfl (.there rfl (.there rfl (.there rfl (.there rfl (.there rfl .here))))))))) ?_
        refine JL.appendS rfl @Try.underlying53 @Try.underlying53 (.inr ⟨_, rfl⟩) info_u8 (by rfl) (by decide) (.tmp (.there rfl .here)) hO (.tmp .here) ((Src.ofSlB hSX)) (by simp) (bv_one _) (hK.size) (by omega) ?_
        intro v13 w14 hO16 hc15
        replace hK := hK.ownv hO hc15 (by omega)
        clear hSX
        replace hO := hO16; clear hO16
        refine JL.val rfl (Run.assign (.tmp .here)) ?_
        refine JL.nil ?_
        refine JE.seq ?_
        refine JC.ret ?_
        refine JE.ret_seq ?_
        refine JE.ret_blk ?_
        refine JE.ret_seq ?_
        refine JE.ret_seq ?_
        refine JE.ret_blk ?_
        refine JE.ret_seq ?_
        refine JE.ret1 @Try.results7 .here ?_
        refine ⟨_, rfl, ?_, hO.ge, hK⟩
        rw [layB_is m0 m7 h0 hn hj hin (by omega) hX (by rw [hbe]; exact Int.emod_eq_of_lt h0 hok)]
        exact SlB.ofOwns (by simpa using hO)
      · rw [div_zero_iff h0] at hok
        have hok := of_decide_eq_false hok
        have hin := misfit_info h0 hn hj (by omega) hok
        refine JC.skip ?_
        refine JE.seq ?_
        refine JC.region ?_
        refine JL.val rfl (Run.move (.tmp (.there rfl (.there rfl (.there rfl (.there rfl (.there rfl (.there rfl (.there rfl (.there rfl (.there rfl (.there rfl (.there rfl (.there rfl (.there rfl .here))))))))))))))) ?_
        refine JL.val rfl (Run.mul .const (.tmp .here) (wrap_i64 (by omega))) ?_
        refine JL.val rfl (Run.assign (.tmp .here)) ?_
        refine JL.nil ?_
        refine JE.blk ?_
        refine JE.seq ?_
        refine JC.region ?_
        refine JL.val rfl (Run.move (.tmp (.there rfl (.there rfl (.there rfl (.there rfl (.there rfl (.there rfl (.there rfl (.there rfl (.there rfl (.there rfl (.there rfl (.there rfl (.there rfl (.there rfl (.there rfl (.there rfl (.there rfl .here))))))))))))))))))) ?_
        refine JL.val rfl (Run.add (.tmp .here) .const (wrap_i64 (by omega))) ?_
        refine JL.val rfl (Run.assign (.tmp .here)) ?_
        refine JL.nil ?_
        exact JE.again (i + 1, 2 * sz) (.cons (.there rfl (.there rfl (.there rfl (.there rfl (.there rfl (.there rfl (.there rfl (.there rfl (.there rfl (.there rfl (.there rfl (.there rfl (.there rfl (.there rfl (.there rfl (.there rfl (.there rfl .here))))))))))))))))) (.cons (.there rfl (.there rfl (.there rfl (.there rfl (.there rfl (.there rfl (.there rfl (.there rfl (.there rfl (.there rfl (.there rfl (.there rfl (.there rfl (.there rfl (.there rfl (.there rfl (.there rfl (.there rfl .here)))))))))))))))))) (.conse (.there rfl (.there rfl (.there rfl .here))) (by simp) (.conse .here (by simp) .nil)))) (⟨by omega, by omega, hK⟩) (by simp only [hmu7]; omega)
    · have h28 := of_decide_eq_false h28
      refine JC.exit ?_
      refine JE.exit_seq ?_
      refine JE.exit_seq ?_
      refine JE.exit_here ?_
      refine JE.seq ?_
      refine JC.seq ?_
      refine JC.region ?_
      refine JL.val rfl (Run.assign .const) ?_
      refine JL.nil ?_
      refine JE.seq ?_
      refine JC.ret ?_
      refine JE.ret1 @Try.results7 .here ?_
      omega

set_option maxHeartbeats 2000000 in
theorem rlay_out (m n : Int) (hm : m < 0 ∨ 7 < m) (w : World) :
    Calls Try.prog 7 #[.int .i64 m, .int .u64 n] w fun e w' => e = .returned (.slice none 0 0) ∧ Ch No w w' := by
  refine calls @Try.func7 rfl @Try.ntmps7 rfl ?_
  show JC _ _ _ _ _ [(0, .int .i64 m), (1, .int .u64 n)] _
  refine JC.seq ?_
  refine JC.region ?_
  refine JL.val rfl (Run.assign .const) ?_
  refine JL.nil ?_
  refine JE.seq ?_
  refine JC.seq ?_
  refine JC.seq ?_
  refine JC.region ?_
  refine JL.val rfl (Run.move (.tmp (.there rfl .here))) ?_
  refine JL.val rfl (Run.lss (.tmp .here) .const) ?_
  refine JL.val rfl (Run.move (.tmp .here)) ?_
  refine JL.gsplit (dj := 12) (want := false) .here (fun hgB => ?_) (fun hgB => ?_)
  · have hg := of_decide_eq_false hgB
    refine JL.gyesb (oj := _) (by rfl) (by rfl) .here hgB ?_
    refine JL.val rfl (Run.move (.tmp (.there rfl (.there rfl (.there rfl (.there rfl .here)))))) ?_
    refine JL.gyesb (oj := _) (by rfl) (by rfl) (.there rfl .here) hgB ?_
    refine JL.val rfl (Run.gtr (.tmp .here) .const) ?_
    refine JL.val rfl (Run.pickF (.tmp (.there rfl (.there rfl .here))) hgB (.tmp .here)) ?_
    refine JL.nil ?_
    refine JE.seq ?_
    refine JC.condT (.tmp .here) (by simp; omega) ?_
    refine JC.seq ?_
    refine JC.region ?_
    refine JL.val rfl (Run.assign .const) ?_
    refine JL.nil ?_
    refine JE.keep (L := _) (.cons .here (.cons (.there rfl (.there rfl (.there rfl (.there rfl (.there rfl (.there rfl (.there rfl (.there rfl .here)))))))) (.cons (.there rfl (.there rfl (.there rfl (.there rfl (.there rfl (.there rfl (.there rfl (.there rfl (.there rfl .here))))))))) .nil))) ?_
    refine JE.seq ?_
    refine JC.ret ?_
    refine JE.ret_seq ?_
    refine JE.ret1 @Try.results7 .here ?_
    exact ⟨rfl, Ch.refl _⟩
  · refine JL.gnob rfl (oj := _) (by rfl) (by rfl) .here hgB ?_
    refine JL.gnob rfl (oj := _) (by rfl) (by rfl) (.there rfl .here) hgB ?_
    refine JL.val rfl (Run.pickT (.tmp (.there rfl (.there rfl .here))) hgB .const) ?_
    refine JL.nil ?_
    refine JE.seq ?_
    refine JC.condT (.tmp .here) (rfl) ?_
    refine JC.seq ?_
    refine JC.region ?_
    refine JL.val rfl (Run.assign .const) ?_
    refine JL.nil ?_
    refine JE.keep (L := _) (.cons .here (.cons (.there rfl (.there rfl (.there rfl (.there rfl (.there rfl (.there rfl (.there rfl (.there rfl .here)))))))) (.cons (.there rfl (.there rfl (.there rfl (.there rfl (.there rfl (.there rfl (.there rfl (.there rfl (.there rfl .here))))))))) .nil))) ?_
    refine JE.seq ?_
    refine JC.ret ?_
    refine JE.ret_seq ?_
    refine JE.ret1 @Try.results7 .here ?_
    exact ⟨rfl, Ch.refl _⟩

set_option maxHeartbeats 2000000 in
theorem lay_out (m n : Int) (hm : m < 0 ∨ 7 < m) (w : World) :
    Calls Try.prog 6 #[.int .i64 m, .int .u64 n] w fun e w' => e = .returned (.slice none 0 0) ∧ Ch No w w' := by
  refine calls @Try.func6 rfl @Try.ntmps6 rfl ?_
  show JC _ _ _ _ _ [(0, .int .i64 m), (1, .int .u64 n)] _
  refine JC.seq ?_
  refine JC.region ?_
  refine JL.val rfl (Run.assign .const) ?_
  refine JL.nil ?_
  refine JE.seq ?_
  refine JC.seq ?_
  refine JC.seq ?_
  refine JC.region ?_
  refine JL.val rfl (Run.move (.tmp (.there rfl .here))) ?_
  refine JL.val rfl (Run.lss (.tmp .here) .const) ?_
  refine JL.val rfl (Run.move (.tmp .here)) ?_
  refine JL.gsplit (dj := 9) (want := false) .here (fun hgB => ?_) (fun hgB => ?_)
  · have hg := of_decide_eq_false hgB
    refine JL.gyesb (oj := _) (by rfl) (by rfl) .here hgB ?_
    refine JL.val rfl (Run.move (.tmp (.there rfl (.there rfl (.there rfl (.there rfl .here)))))) ?_
    refine JL.gyesb (oj := _) (by rfl) (by rfl) (.there rfl .here) hgB ?_
    refine JL.val rfl (Run.gtr (.tmp .here) .const) ?_
    refine JL.val rfl (Run.pickF (.tmp (.there rfl (.there rfl .here))) hgB (.tmp .here)) ?_
    refine JL.nil ?_
    refine JE.seq ?_
    refine JC.condT (.tmp .here) (by simp; omega) ?_
    refine JC.seq ?_
    refine JC.region ?_
    refine JL.val rfl (Run.assign .const) ?_
    refine JL.nil ?_
    refine JE.keep (L := _) (.cons .here (.cons (.there rfl (.there rfl (.there rfl (.there rfl (.there rfl (.there rfl (.there rfl (.there rfl .here)))))))) (.cons (.there rfl (.there rfl (.there rfl (.there rfl (.there rfl (.there rfl (.there rfl (.there rfl (.there rfl .here))))))))) .nil))) ?_
    refine JE.seq ?_
    refine JC.ret ?_
    refine JE.ret_seq ?_
    refine JE.ret1 @Try.results6 .here ?_
    exact ⟨rfl, Ch.refl _⟩
  · refine JL.gnob rfl (oj := _) (by rfl) (by rfl) .here hgB ?_
    refine JL.gnob rfl (oj := _) (by rfl) (by rfl) (.there rfl .here) hgB ?_
    refine JL.val rfl (Run.pickT (.tmp (.there rfl (.there rfl .here))) hgB .const) ?_
    refine JL.nil ?_
    refine JE.seq ?_
    refine JC.condT (.tmp .here) (rfl) ?_
    refine JC.seq ?_
    refine JC.region ?_
    refine JL.val rfl (Run.assign .const) ?_
    refine JL.nil ?_
    refine JE.keep (L := _) (.cons .here (.cons (.there rfl (.there rfl (.there rfl (.there rfl (.there rfl (.there rfl (.there rfl (.there rfl .here)))))))) (.cons (.there rfl (.there rfl (.there rfl (.there rfl (.there rfl (.there rfl (.there rfl (.there rfl (.there rfl .here))))))))) .nil))) ?_
    refine JE.seq ?_
    refine JC.ret ?_
    refine JE.ret_seq ?_
    refine JE.ret1 @Try.results6 .here ?_
    exact ⟨rfl, Ch.refl _⟩

set_option maxHeartbeats 2000000 in
theorem rsize_any (n : Int) (h0 : 0 ≤ n) (hn : n < 18446744073709551616) (w : World) :
    Calls Try.prog 9 #[.int .u64 n] w fun e w' => e = .returned (.int .i64 (sizeI n)) ∧ Ch No w w' := by
  refine calls @Try.func9 rfl @Try.ntmps9 rfl ?_
  show JC _ _ _ _ _ [(0, .int .u64 n)] _
  refine JC.seq ?_
  refine JC.region ?_
  refine JL.val rfl (Run.assign .const) ?_
  refine JL.nil ?_
  refine JE.seq ?_
  refine JC.seq ?_
  refine JC.region ?_
  refine JL.val rfl (Run.move (.tmp (.there rfl .here))) ?_
  refine JL.call rfl (Run.call @Try.call7 (.cons .const (.cons (.tmp .here) .nil))) (rlay_any 0 n (by omega) (by omega) h0 hn _) ?_
  rintro e w1 ⟨v, rfl, hs, -, hc⟩
  refine JRet.ret ?_
  obtain ⟨a, cap, rfl⟩ := hs.slice
  refine JL.val rfl (Run.len @Try.underlying53 (.tmp .here)) ?_
  refine JL.val rfl (Run.assign (.tmp .here)) ?_
  refine JL.nil ?_
  refine JE.seq ?_
  refine JC.ret ?_
  refine JE.ret1 @Try.results9 .here ?_
  exact ⟨congrArg (fun k => Ending.returned (.int .i64 k)) (by rw [layB_len]; exact lay_size h0 hn 0), hc⟩

end Go.Proofs.Ytggngmmbpkoooaa.Hd
