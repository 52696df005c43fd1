/- Contracts of the functions of the statement HeadThere, for every input. -/
import Derived.Test.YtggngmmbpkoooaaHdM
namespace Go.Proofs.Ytggngmmbpkoooaa.Hd
open Go Go.Proofs.Ytggngmmbpkoooaa.Eng
set_option linter.unusedVariables false
set_option linter.unusedSimpArgs false
set_option maxRecDepth 4000
def withinI (i n : Int) : Int := if i.tmod n < 0 then i.tmod n + n else i.tmod n
theorem within_bd {i n : Int} (h : 0 < n) : 0 ≤ withinI i n ∧ withinI i n < n := by
  have h1 := Int.lt_tmod_of_pos i h
  have h2 := Int.tmod_lt_of_pos i h
  unfold withinI; split <;> omega
theorem read_is {w : World} {v : Value} {l : List UInt8} {r : Value} (h : SlB w v l) (hr : readF l = r) : Calls Try.prog 21 #[v] w fun e w' => e = .returned r ∧ Ch No w w' := hr ▸ read_any h
theorem shr_pow {n : Int} {k : Nat} (hk : k < 8) : n / (2 : Int) ^ (min ((8 * (k : Int))).toNat IntKind.u64.bits) = n / 256 ^ k := by
  have : (2 : Int) ^ (min ((8 * (k : Int))).toNat IntKind.u64.bits) = 256 ^ k := by
    rcases (show k = 0 ∨ k = 1 ∨ k = 2 ∨ k = 3 ∨ k = 4 ∨ k = 5 ∨ k = 6 ∨ k = 7 by omega) with rfl | rfl | rfl | rfl | rfl | rfl | rfl | rfl <;> decide
  rw [this]

set_option maxHeartbeats 2000000 in
theorem num_any (n : Int) (w : World) :
    Calls Try.prog 22 #[.int .i64 n] w fun e w' => e = .returned (.int .i64 n) ∧ w' = w := by
  refine calls @Try.func22 rfl @Try.ntmps22 rfl ?_
  show JC _ _ _ _ _ [(0, .int .i64 n)] _
  refine JC.seq ?_
  refine JC.region ?_
  refine JL.val rfl (Run.assign .const) ?_
  refine JL.nil ?_
  refine JE.seq ?_
  refine JC.seq ?_
  refine JC.region ?_
  refine JL.val rfl (Run.move (.tmp (.there rfl .here))) ?_
  refine JL.val rfl (Run.assign (.tmp .here)) ?_
  refine JL.nil ?_
  refine JE.seq ?_
  refine JC.ret ?_
  refine JE.ret1 @Try.results22 .here ?_
  exact ⟨rfl, rfl⟩

set_option maxHeartbeats 2000000 in
theorem within_any (i n : Int) (h : 0 < n) (hn : n ≤ 9223372036854775807) (w : World) :
    Calls Try.prog 19 #[.int .i64 i, .int .i64 n] w fun e w' => e = .returned (.int .i64 (withinI i n)) ∧ w' = w := by
  have h1 := Int.lt_tmod_of_pos i h
  have h2 := Int.tmod_lt_of_pos i h
  refine calls @Try.func19 rfl @Try.ntmps19 rfl ?_
  show JC _ _ _ _ _ [(0, .int .i64 i), (1, .int .i64 n)] _
  refine JC.seq ?_
  refine JC.region ?_
  refine JL.val rfl (Run.assign .const) ?_
  refine JL.nil ?_
  refine JE.seq ?_
  refine JC.seq ?_
  refine JC.region ?_
  refine JL.val rfl (Run.move (.tmp (.there rfl .here))) ?_
  refine JL.val rfl (Run.move (.tmp (.there rfl (.there rfl (.there rfl .here))))) ?_
  refine JL.val rfl (Run.rem (.tmp (.there rfl .here)) (.tmp .here) (by omega) rfl) ?_
  refine JL.val rfl (Run.assign (.tmp .here)) ?_
  refine JL.nil ?_
  refine JE.seq ?_
  refine JC.seq ?_
  refine JC.seq ?_
  refine JC.region ?_
  refine JL.val rfl (Run.move (.tmp .here)) ?_
  refine JL.val rfl (Run.lss (.tmp .here) .const) ?_
  refine JL.nil ?_
  refine JE.seq ?_
  refine JC.cond (.tmp .here) (fun hc => ?_) (fun hc => ?_)
  · have hc := of_decide_eq_true hc
    refine JC.region ?_
    refine JL.val rfl (Run.move (.tmp (.there rfl (.there rfl .here)))) ?_
    refine JL.val rfl (Run.move (.tmp (.there rfl (.there rfl (.there rfl (.there rfl (.there rfl (.there rfl (.there rfl (.there rfl (.there rfl .here))))))))))) ?_
    refine JL.val rfl (Run.add (.tmp (.there rfl .here)) (.tmp .here) (wrap_i64 (by omega))) ?_
    refine JL.val rfl (Run.assign (.tmp .here)) ?_
    refine JL.nil ?_
    refine JE.keep (L := _) (.cons .here (.cons (.there rfl (.there rfl (.there rfl (.there rfl (.there rfl (.there rfl (.there rfl (.there rfl (.there rfl (.there rfl .here)))))))))) .nil)) ?_
    refine JE.seq ?_
    refine JC.seq ?_
    refine JC.region ?_
    refine JL.val rfl (Run.move (.tmp .here)) ?_
    refine JL.val rfl (Run.assign (.tmp .here)) ?_
    refine JL.nil ?_
    refine JE.seq ?_
    refine JC.ret ?_
    refine JE.ret1 @Try.results19 .here ?_
    exact ⟨ret_int (by unfold withinI; rw [if_pos hc]), rfl⟩
  · have hc := of_decide_eq_false hc
    refine JC.skip ?_
    refine JE.seq ?_
    refine JC.seq ?_
    refine JC.region ?_
    refine JL.val rfl (Run.move (.tmp (.there rfl (.there rfl .here)))) ?_
    refine JL.val rfl (Run.assign (.tmp .here)) ?_
    refine JL.nil ?_
    refine JE.keep (L := _) (.cons .here .nil) ?_
    refine JE.seq ?_
    refine JC.ret ?_
    refine JE.ret1 @Try.results19 .here ?_
    exact ⟨ret_int (by unfold withinI; rw [if_neg hc]), rfl⟩

set_option maxHeartbeats 2000000 in
theorem first_any {v : Value} {l : List UInt8} (w : World) (h : SlB w v l) :
    Calls Try.prog 20 #[v] w fun e w' => ∃ v', e = .returned v' ∧ SlB w v' (l.take 1048576) ∧ w' = w := by
  have hlen := h.len
  rcases h with ⟨hv, hl⟩ | ⟨b, o, s, cap, hv, h1, h2, hs, hb⟩
  · subst hv; subst hl
    refine calls @Try.func20 rfl @Try.ntmps20 rfl ?_
    show JC _ _ _ _ _ [(0, .slice none 0 0)] _
    refine JC.seq ?_
    refine JC.region ?_
    refine JL.val rfl (Run.assign .const) ?_
    refine JL.nil ?_
    refine JE.seq ?_
    refine JC.seq ?_
    refine JC.seq ?_
    refine JC.region ?_
    refine JL.val rfl (Run.move (.tmp (.there rfl .here))) ?_
    refine JL.val rfl (Run.len @Try.underlying53 (.tmp .here)) ?_
    refine JL.val rfl (Run.gtr (.tmp .here) .const) ?_
    refine JL.nil ?_
    refine JE.seq ?_
    refine JC.condF (.tmp .here) (by decide) ?_
    refine JC.skip ?_
    refine JE.seq ?_
    refine JC.seq ?_
    refine JC.region ?_
    refine JL.val rfl (Run.move (.tmp (.there rfl (.there rfl (.there rfl (.there rfl .here)))))) ?_
    refine JL.val rfl (Run.assign (.tmp .here)) ?_
    refine JL.nil ?_
    refine JE.seq ?_
    refine JC.ret ?_
    refine JE.ret1 @Try.results20 .here ?_
    exact ⟨_, rfl, .inl ⟨rfl, rfl⟩, rfl⟩
  · subst hv
    refine calls @Try.func20 rfl @Try.ntmps20 rfl ?_
    show JC _ _ _ _ _ [(0, .slice (some ⟨b, o, s⟩) l.length cap)] _
    refine JC.seq ?_
    refine JC.region ?_
    refine JL.val rfl (Run.assign .const) ?_
    refine JL.nil ?_
    refine JE.seq ?_
    refine JC.seq ?_
    refine JC.seq ?_
    refine JC.region ?_
    refine JL.val rfl (Run.move (.tmp (.there rfl .here))) ?_
    refine JL.val rfl (Run.len @Try.underlying53 (.tmp .here)) ?_
    refine JL.val rfl (Run.gtr (.tmp .here) .const) ?_
    refine JL.nil ?_
    refine JE.seq ?_
    refine JC.cond (.tmp .here) (fun hc => ?_) (fun hc => ?_)
    · have hc := of_decide_eq_true hc
      have hne : l ≠ [] := fun h0 => by subst h0; simp at hc
      obtain rfl := hs hne
      refine JC.seq ?_
      refine JC.region ?_
      refine JL.val rfl (Run.move (.tmp (.there rfl (.there rfl (.there rfl (.there rfl .here)))))) ?_
      refine JL.sliceS (L := 0) (H := 1048576) (M := cap) rfl @Try.underlying53 (@Try.sizeOf5 _) (.tmp .here) (fun a ha => by simp only [Option.map, (show Ev _ _ _ from .const).eq ha]; exact bounds_h (by rfl) (by omega)) (by omega) ?_
      intro o1 ho1
      refine JL.val rfl (Run.assign (.tmp .here)) ?_
      refine JL.nil ?_
      refine JE.seq ?_
      refine JC.ret ?_
      refine JE.ret_seq ?_
      refine JE.ret1 @Try.results20 .here ?_
      exact ⟨_, rfl, SlB.ofBs (by rw [ho1 (by omega)]; simpa using hb.take (k := 1048576)) (by simp; omega) (by omega) (by omega), rfl⟩
    · have hc := of_decide_eq_false hc
      refine JC.skip ?_
      refine JE.seq ?_
      refine JC.seq ?_
      refine JC.region ?_
      refine JL.val rfl (Run.move (.tmp (.there rfl (.there rfl (.there rfl (.there rfl .here)))))) ?_
      refine JL.val rfl (Run.assign (.tmp .here)) ?_
      refine JL.nil ?_
      refine JE.seq ?_
      refine JC.ret ?_
      refine JE.ret1 @Try.results20 .here ?_
      exact ⟨_, rfl, by rw [List.take_of_length_le (by omega)]; exact .inr ⟨b, o, s, cap, rfl, h1, h2, hs, hb⟩, rfl⟩

set_option maxHeartbeats 2000000 in
theorem lays_any (w : World) :
    Calls Try.prog 17 #[] w fun e w' => e = .returned (.bool true) ∧ Ch No w w' := by
  have hK : Ch No w w := Ch.refl w
  refine calls @Try.func17 rfl @Try.ntmps17 rfl ?_
  show JC _ _ _ _ _ [] _
  refine JC.seq ?_
  refine JC.region ?_
  refine JL.val rfl (Run.assign .const) ?_
  refine JL.nil ?_
  refine JE.seq ?_
  refine JC.seq ?_
  refine JC.region ?_
  refine JL.lit (os := [_, _, _]) rfl @Try.underlying53 (@Try.sizeOf5 _) (@Try.zeroValue5 _) (by rfl) (by rfl) rfl rfl (by rfl) (.cons .const (.cons .const (.cons .const .nil))) (by simp [Value.cells]) ?_
  intro b1 w2 hg3 hc4 Bb1
  have ge_b1 : _ ≤ b1 := Nat.le_trans hK.size hg3
  replace hK := hK.no hc4
  have hs : SlB w2 (.slice (some ⟨b1, 0, none⟩) 3 3) [216, 42, 0] := SlB.ofBlk (l := [216, 42, 0]) Bb1 rfl (by omega) (by omega)
  refine JL.call rfl (Run.call @Try.call21 (.cons (.tmp .here) .nil)) (read_is (r := rHead 6 24 42 2 true 0) hs (by kernel_rfl)) ?_
  rintro e w5 ⟨rfl, hc1⟩
  refine JRet.ret ?_
  replace Bb1 := Bb1.no hc1
  replace hK := hK.no hc1
  refine JL.val rfl (Run.move (.tmp .here)) ?_
  refine JL.val rfl (Run.extract (.tmp .here) (by rfl)) ?_
  refine JL.val rfl (Run.extract (.tmp (.there rfl .here)) (by rfl)) ?_
  refine JL.alloc rfl (@Try.zeroValue66 _) ?_
  intro b6 w7 hg8 hc9 Bb6
  have lt_b1_b6 : b1 < b6 := Nat.lt_of_lt_of_le Bb1.lt hg8
  have ge_b6 : _ ≤ b6 := Nat.le_trans hK.size hg8
  replace Bb1 := Bb1.no hc9
  replace hK := hK.no hc9
  refine JL.storeA (@Try.sizeOf66 _) (.tmp .here) (.tmp (.there rfl (.there rfl .here))) (by rfl) (by rfl) Bb6 rfl ?_
  intro w10 hc11 hb12
  replace Bb1 := Bb1.ch hc11 (Nat.ne_of_lt lt_b1_b6)
  replace hK := hK.own hc11 ge_b6
  replace Bb6 := hb12; clear hb12
  refine JL.val rfl (Run.assign (.tmp (.there rfl .here))) ?_
  refine JL.nil ?_
  refine JE.seq ?_
  refine JC.seq ?_
  refine JC.region ?_
  refine JL.call rfl (Run.call @Try.call6 (.cons .const (.cons .const .nil))) (lay_any 6 42 (by omega) (by omega) (by omega) _) ?_
  rintro e w13 ⟨v1, rfl, hO1, hc2⟩
  refine JRet.ret ?_
  replace Bb1 := Bb1.no hc2
  replace Bb6 := Bb6.no hc2
  replace hK := hK.no hc2
  have hs1 : SlB w13 v1 [216, 42] := SlB.ofOwns (l := [216, 42]) (by rw [show ([216, 42] : List UInt8).map bv = u8s (layI 6 42) from by kernel_rfl]; exact hO1)
  refine JL.val rfl (Run.bytesStr @Try.underlying53 @Try.underlying9 @Try.underlying5 (.tmp .here) hs1) ?_
  refine JL.val rfl (Run.eqS (s := [216, 42]) (t := [216, 42]) (.tmp .here) .const) ?_
  refine JL.val rfl (Run.move (.tmp .here)) ?_
  refine JL.gyesb (oj := _) (by rfl) (by rfl) .here (by decide) ?_
  refine JL.val rfl (Run.move (.tmp (.there rfl (.there rfl (.there rfl (.there rfl .here)))))) ?_
  refine JL.gyesb (oj := _) (by rfl) (by rfl) (.there rfl .here) (by decide) ?_
  refine JL.call rfl (Run.call @Try.call22 (.cons (.tmp .here) .nil)) (num_any _ _) ?_
  rintro e w13 ⟨rfl, rfl⟩
  refine JRet.ret ?_
  refine JL.gyesb (oj := _) (by rfl) (by rfl) (.there rfl (.there rfl .here)) (by decide) ?_
  refine JL.val rfl (Run.eql (.tmp .here) .const) ?_
  refine JL.val rfl (Run.pickT (.tmp (.there rfl (.there rfl (.there rfl .here)))) (by decide) (.tmp .here)) ?_
  refine JL.val rfl (Run.move (.tmp .here)) ?_
  refine JL.gyesb (oj := _) (by rfl) (by rfl) .here (by decide) ?_
  refine JL.val rfl (Run.fieldAddr (ft := 3) (foff := 0) (off := 0) @Try.underlying66 (by rfl) (@Try.sizeOf3 _) rfl rfl (.tmp (.there rfl (.there rfl (.there rfl (.there rfl (.there rfl (.there rfl (.there rfl (.there rfl (.there rfl (.there rfl .here)))))))))))) ?_
  refine JL.gyesb (oj := _) (by rfl) (by rfl) (.there rfl .here) (by decide) ?_
  refine JL.val rfl (Run.loadB (@Try.isAgg3 _) (.tmp .here) Bb6 (by rfl)) ?_
  refine JL.gyesb (oj := _) (by rfl) (by rfl) (.there rfl (.there rfl .here)) (by decide) ?_
  refine JL.val rfl (Run.eql (.tmp .here) .const) ?_
  refine JL.val rfl (Run.pickT (.tmp (.there rfl (.there rfl (.there rfl .here)))) (by decide) (.tmp .here)) ?_
  refine JL.val rfl (Run.move (.tmp .here)) ?_
  refine JL.gyesb (oj := _) (by rfl) (by rfl) .here (by decide) ?_
  refine JL.val rfl (Run.fieldAddr (ft := 50) (foff := 2) (off := 2) @Try.underlying66 (by rfl) (@Try.sizeOf50 _) rfl rfl (.tmp (.there rfl (.there rfl (.there rfl (.there rfl (.there rfl (.there rfl (.there rfl (.there rfl (.there rfl (.there rfl (.there rfl (.there rfl (.there rfl (.there rfl (.there rfl .here))))))))))))))))) ?_
  refine JL.gyesb (oj := _) (by rfl) (by rfl) (.there rfl .here) (by decide) ?_
  refine JL.val rfl (Run.loadB (@Try.isAgg50 _) (.tmp .here) Bb6 (by rfl)) ?_
  refine JL.gyesb (oj := _) (by rfl) (by rfl) (.there rfl (.there rfl .here)) (by decide) ?_
  refine JL.val rfl (Run.eql (.tmp .here) .const) ?_
  refine JL.val rfl (Run.pickT (.tmp (.there rfl (.there rfl (.there rfl .here)))) (by decide) (.tmp .here)) ?_
  refine JL.val rfl (Run.move (.tmp .here)) ?_
  refine JL.gyesb (oj := _) (by rfl) (by rfl) .here (by decide) ?_
  refine JL.val rfl (Run.fieldAddr (ft := 3) (foff := 3) (off := 3) @Try.underlying66 (by rfl) (@Try.sizeOf3 _) rfl rfl (.tmp (.there rfl (.there rfl (.there rfl (.there rfl (.there rfl (.there rfl (.there rfl (.there rfl (.there rfl (.there rfl (.there rfl (.there rfl (.there rfl (.there rfl (.there rfl (.there rfl (.there rfl (.there rfl (.there rfl (.there rfl .here)))))))))))))))))))))) ?_
  refine JL.gyesb (oj := _) (by rfl) (by rfl) (.there rfl .here) (by decide) ?_
  refine JL.val rfl (Run.loadB (@Try.isAgg3 _) (.tmp .here) Bb6 (by rfl)) ?_
  refine JL.gyesb (oj := _) (by rfl) (by rfl) (.there rfl (.there rfl .here)) (by decide) ?_
  refine JL.val rfl (Run.eql (.tmp .here) .const) ?_
  refine JL.val rfl (Run.pickT (.tmp (.there rfl (.there rfl (.there rfl .here)))) (by decide) (.tmp .here)) ?_
  refine JL.val rfl (Run.move (.tmp .here)) ?_
  refine JL.gyesb (oj := _) (by rfl) (by rfl) .here (by decide) ?_
  refine JL.val rfl (Run.fieldAddr (ft := 4) (foff := 4) (off := 4) @Try.underlying66 (by rfl) (@Try.sizeOf4 _) rfl rfl (.tmp (.there rfl (.there rfl (.there rfl (.there rfl (.there rfl (.there rfl (.there rfl (.there rfl (.there rfl (.there rfl (.there rfl (.there rfl (.there rfl (.there rfl (.there rfl (.there rfl (.there rfl (.there rfl (.there rfl (.there rfl (.there rfl (.there rfl (.there rfl (.there rfl (.there rfl .here))))))))))))))))))))))))))) ?_
  refine JL.gyesb (oj := _) (by rfl) (by rfl) (.there rfl .here) (by decide) ?_
  refine JL.val rfl (Run.loadB (@Try.isAgg4 _) (.tmp .here) Bb6 (by rfl)) ?_
  refine JL.val rfl (Run.pickT (.tmp (.there rfl (.there rfl .here))) (by decide) (.tmp .here)) ?_
  refine JL.val rfl (Run.move (.tmp .here)) ?_
  refine JL.gyesb (oj := _) (by rfl) (by rfl) .here (by decide) ?_
  refine JL.call rfl (Run.call @Try.call8 (.cons .const .nil)) (size_any 42 (by omega) _) ?_
  rintro e w13 ⟨rfl, rfl⟩
  refine JRet.ret ?_
  refine JL.gyesb (oj := _) (by rfl) (by rfl) (.there rfl .here) (by decide) ?_
  refine JL.val rfl (Run.eql (.tmp .here) .const) ?_
  refine JL.val rfl (Run.pickT (.tmp (.there rfl (.there rfl .here))) (by decide) (.tmp .here)) ?_
  refine JL.val rfl (Run.assign (.tmp .here)) ?_
  refine JL.nil ?_
  refine JE.keep (L := _) (.cons .here .nil) ?_
  refine JE.seq ?_
  refine JC.ret ?_
  refine JE.ret1 @Try.results17 .here ?_
  exact ⟨congrArg (fun b => Ending.returned (.bool b)) (by decide), hK⟩


theorem one_bv {x : Int} (h : 0 ≤ x) (h' : x ≤ 255) : Value.int .u8 x = bv (u8 x) := by simp [bv, u8_toNat h h']

set_option maxHeartbeats 2000000 in
theorem longer_any (m n : Int) (m0 : 0 ≤ m) (m7 : m < 7) (h0 : 0 ≤ n) (hn : n < 18446744073709551616) {tv : Value} {tl : List UInt8} (w0 : World) (h : SlB w0 tv tl) (htl : tl.length ≤ 1048576) :
    Calls Try.prog 23 #[.int .i64 m, .int .u64 n, .int .i64 (sizeI n), tv] w0 fun e w' => e = .returned (.bool true) ∧ Ch No w0 w' := by
  have hK : Ch No w0 w0 := Ch.refl w0
  refine calls @Try.func23 rfl @Try.ntmps23 rfl ?_
  show JC _ _ _ _ _ [(0, .int .i64 m), (1, .int .u64 n), (2, .int .i64 (sizeI n)), (3, tv)] _
  refine JC.seq ?_
  refine JC.region ?_
  refine JL.val rfl (Run.assign .const) ?_
  refine JL.nil ?_
  refine JE.seq ?_
  refine JC.seq ?_
  refine JC.region ?_
  refine JL.val rfl (Run.assign .const) ?_
  refine JL.nil ?_
  refine JE.seq ?_
  refine JC.seq ?_
  refine JC.seq ?_
  refine JC.region ?_
  refine JL.val rfl (Run.assign .const) ?_
  refine JL.nil ?_
  refine JE.seq ?_
  refine JC.block ?_
  refine JC.loop (α := Nat × Nat) (fun ⟨i, wd⟩ => [(0, .int .i64 m), (1, .int .u64 n), (2, .int .i64 (sizeI n)), (3, tv), (9, .int .i64 (wd : Int)), (10, .int .i64 (i : Int))]) (fun ⟨i, wd⟩ w => (i = 24 ∧ wd = 1 ∨ i = 25 ∧ wd = 2 ∨ i = 26 ∧ wd = 4 ∨ i = 27 ∧ wd = 8 ∨ i = 28 ∧ wd = 16) ∧ Ch No w0 w) (fun ⟨i, wd⟩ => 28 - i) (24, 1) ⟨.inl ⟨rfl, rfl⟩, hK⟩ (.cons (.there rfl (.there rfl (.there rfl .here))) (.cons (.there rfl (.there rfl (.there rfl (.there rfl .here)))) (.cons (.there rfl (.there rfl (.there rfl (.there rfl (.there rfl .here))))) (.cons (.there rfl (.there rfl (.there rfl (.there rfl (.there rfl (.there rfl .here)))))) (.conse (.there rfl .here) (rfl) (.conse .here (rfl) .nil)))))) ?_
  rintro ⟨i, wd⟩ w1 m2 ⟨hi, hK⟩ hmu3
  show JC _ _ _ _ _ [(0, .int .i64 m), (1, .int .u64 n), (2, .int .i64 (sizeI n)), (3, tv), (9, .int .i64 (wd : Int)), (10, .int .i64 (i : Int))] _
  refine JC.seq ?_
  refine JC.seq ?_
  refine JC.region ?_
  refine JL.val rfl (Run.move (.tmp (.there rfl (.there rfl (.there rfl (.there rfl (.there rfl .here))))))) ?_
  refine JL.val rfl (Run.lss (.tmp .here) .const) ?_
  refine JL.nil ?_
  refine JE.seq ?_
  refine JC.cond (.tmp .here) (fun h28 => ?_) (fun h28 => ?_)
  · have h28 := of_decide_eq_true h28
    have hj : (i = 24 ∧ wd = 1 ∨ i = 25 ∧ wd = 2 ∨ i = 26 ∧ wd = 4 ∨ i = 27 ∧ wd = 8) := by omega
    refine JC.skip ?_
    refine JE.seq ?_
    refine JC.seq ?_
    refine JC.block ?_
    refine JC.seq ?_
    refine JC.seq ?_
    refine JC.region ?_
    refine JL.val rfl (Run.move (.tmp (.there rfl (.there rfl (.there rfl (.there rfl (.there rfl (.there rfl .here)))))))) ?_
    refine JL.val rfl (Run.add (.tmp .here) .const (wrap_i64 (by omega))) ?_
    refine JL.val rfl (Run.move (.tmp (.there rfl (.there rfl (.there rfl (.there rfl (.there rfl (.there rfl .here)))))))) ?_
    refine JL.val rfl (Run.gtr (.tmp (.there rfl .here)) (.tmp .here)) ?_
    refine JL.nil ?_
    refine JE.seq ?_
    refine JC.cond (.tmp .here) (fun hs => ?_) (fun hs => ?_)
    · have hs := of_decide_eq_true hs
      refine JC.seq ?_
      refine JC.region ?_
      refine JL.val rfl (Run.move (.tmp (.there rfl (.there rfl (.there rfl (.there rfl (.there rfl (.there rfl .here)))))))) ?_
      refine JL.val rfl (Run.mul .const (.tmp .here) (wrap_i64 (by omega))) ?_
      refine JL.val rfl (Run.move (.tmp (.there rfl (.there rfl (.there rfl (.there rfl (.there rfl (.there rfl (.there rfl (.there rfl (.there rfl (.there rfl (.there rfl (.there rfl (.there rfl .here))))))))))))))) ?_
      refine JL.val rfl (Run.add (.tmp (.there rfl .here)) (.tmp .here) (wrap_i64 (by omega))) ?_
      refine JL.val rfl (Run.conv @Try.underlying3 @Try.underlying5 (.tmp .here) (wrap_u8 (by omega))) ?_
      refine JL.lit (os := [.tmp 27]) rfl @Try.underlying53 (@Try.sizeOf5 _) (@Try.zeroValue5 _) (by rfl) (by rfl) rfl rfl (by rfl) (.cons (.tmp .here) .nil) (by simp [Value.cells]) ?_
      intro b4 w5 hg6 hc7 Bb4
      have ge_b4 : _ ≤ b4 := Nat.le_trans hK.size hg6
      replace hK := hK.no hc7
      have hO : Owns w5 w0.heap.size 5 1 (.slice (some ⟨b4, 0, none⟩) 1 1) (1 + 0) ((u8 (32 * m + (i : Int)) :: hiB n wd 0).map bv) := by have h := Owns.ofBlk (sz := 1) (n := 1) (cap := 1) Bb4 ge_b4 rfl (by omega) (by omega); rw [one_bv (by omega) (by omega)] at h; exact h
      refine JL.val rfl (Run.assign (.tmp .here)) ?_
      refine JL.nil ?_
      refine JE.seq ?_
      refine JC.seq ?_
      refine JC.seq ?_
      refine JC.region ?_
      refine JL.val rfl (Run.move (.tmp (.there rfl (.there rfl (.there rfl (.there rfl (.there rfl (.there rfl (.there rfl (.there rfl (.there rfl (.there rfl (.there rfl (.there rfl (.there rfl (.there rfl (.there rfl (.there rfl (.there rfl .here))))))))))))))))))) ?_
      refine JL.val rfl (Run.sub (.tmp .here) .const (wrap_i64 (by omega))) ?_
      refine JL.val rfl (Run.assign (.tmp .here)) ?_
      refine JL.nil ?_
      refine JE.seq ?_
      refine JC.block ?_
      refine JC.loop (α := Nat × Value) (fun ⟨t, v⟩ => [(0, .int .i64 m), (1, .int .u64 n), (2, .int .i64 (sizeI n)), (3, tv), (9, .int .i64 (wd : Int)), (10, .int .i64 (i : Int)), (11, v), (12, .int .i64 ((wd : Int) - 1 - (t : Int)))]) (fun ⟨t, v⟩ w => t ≤ wd ∧ Owns w w0.heap.size 5 1 v (1 + t) ((u8 (32 * m + (i : Int)) :: hiB n wd t).map bv) ∧ Ch No w0 w) (fun ⟨t, v⟩ => wd - t) (0, _) ⟨Nat.zero_le _, hO, hK⟩ (.cons (.there rfl (.there rfl (.there rfl (.there rfl (.there rfl (.there rfl (.there rfl (.there rfl (.there rfl (.there rfl (.there rfl (.there rfl (.there rfl (.there rfl (.there rfl (.there rfl .here)))))))))))))))) (.cons (.there rfl (.there rfl (.there rfl (.there rfl (.there rfl (.there rfl (.there rfl (.there rfl (.there rfl (.there rfl (.there rfl (.there rfl (.there rfl (.there rfl (.there rfl (.there rfl (.there rfl .here))))))))))))))))) (.cons (.there rfl (.there rfl (.there rfl (.there rfl (.there rfl (.there rfl (.there rfl (.there rfl (.there rfl (.there rfl (.there rfl (.there rfl (.there rfl (.there rfl (.there rfl (.there rfl (.there rfl (.there rfl .here)))))))))))))))))) (.cons (.there rfl (.there rfl (.there rfl (.there rfl (.there rfl (.there rfl (.there rfl (.there rfl (.there rfl (.there rfl (.there rfl (.there rfl (.there rfl (.there rfl (.there rfl (.there rfl (.there rfl (.there rfl (.there rfl .here))))))))))))))))))) (.cons (.there rfl (.there rfl (.there rfl (.there rfl (.there rfl (.there rfl (.there rfl (.there rfl (.there rfl (.there rfl (.there rfl (.there rfl (.there rfl (.there rfl (.there rfl (.there rfl (.there rfl (.there rfl (.there rfl (.there rfl .here)))))))))))))))))))) (.cons (.there rfl (.there rfl (.there rfl (.there rfl (.there rfl (.there rfl (.there rfl (.there rfl (.there rfl (.there rfl (.there rfl (.there rfl (.there rfl (.there rfl (.there rfl (.there rfl (.there rfl (.there rfl (.there rfl (.there rfl (.there rfl .here))))))))))))))))))))) (.cons (.there rfl (.there rfl (.there rfl .here))) (.conse .here (by simp) .nil)))))))) ?_
      rintro ⟨t, v⟩ w8 m9 ⟨ht, hO, hK⟩ hmu10
      show JC _ _ _ _ _ [(0, .int .i64 m), (1, .int .u64 n), (2, .int .i64 (sizeI n)), (3, tv), (9, .int .i64 (wd : Int)), (10, .int .i64 (i : Int)), (11, v), (12, .int .i64 ((wd : Int) - 1 - (t : Int)))] _
      refine JC.seq ?_
      refine JC.seq ?_
      refine JC.region ?_
      refine JL.val rfl (Run.move (.tmp (.there rfl (.there rfl (.there rfl (.there rfl (.there rfl (.there rfl (.there rfl .here))))))))) ?_
      refine JL.val rfl (Run.geq (.tmp .here) .const) ?_
      refine JL.nil ?_
      refine JE.seq ?_
      refine JC.cond (.tmp .here) (fun hk => ?_) (fun hk => ?_)
      · have hk := of_decide_eq_true hk
        have hkk : (wd : Int) - 1 - (t : Int) = ((wd - 1 - t : Nat) : Int) := by omega
        refine JC.skip ?_
        refine JE.seq ?_
        refine JC.seq ?_
        refine JC.block ?_
        refine JC.region ?_
        refine JL.val rfl (Run.move (.tmp (.there rfl (.there rfl (.there rfl (.there rfl (.there rfl (.there rfl (.there rfl (.there rfl .here)))))))))) ?_
        refine JL.val rfl (Run.move (.tmp (.there rfl (.there rfl (.there rfl (.there rfl .here)))))) ?_
        refine JL.val rfl (Run.move (.tmp (.there rfl (.there rfl (.there rfl (.there rfl (.there rfl (.there rfl (.there rfl (.there rfl (.there rfl (.there rfl (.there rfl .here))))))))))))) ?_
        refine JL.val rfl (Run.mul .const (.tmp .here) (wrap_i64 (by omega))) ?_
        refine JL.val rfl (Run.conv @Try.underlying3 @Try.underlying73 (.tmp .here) (wrap_u64 (by omega))) ?_
        refine JL.val rfl (Run.shrv (c := n / 256 ^ (wd - 1 - t)) (.tmp (.there rfl (.there rfl (.there rfl .here)))) (.tmp .here) (by omega) (by rw [hkk]; exact shr_pow (by omega))) ?_
        refine JL.val rfl (Run.conv @Try.underlying50 @Try.underlying5 (.tmp .here) (wrap_u8m _)) ?_
        refine JL.lit (os := [.tmp 41]) rfl @Try.underlying53 (@Try.sizeOf5 _) (@Try.zeroValue5 _) (by rfl) (by rfl) rfl rfl (by rfl) (.cons (.tmp .here) .nil) (by simp [Value.cells]) ?_
        intro b11 w12 hg13 hc14 Bb11
        have ge_b11 : _ ≤ b11 := Nat.le_trans hK.size hg13
        replace hO := hO.no hc14
        replace hK := hK.no hc14
        refine JL.appendS rfl @Try.underlying53 @Try.underlying53 (.inr ⟨_, rfl⟩) info_u8 (by rfl) (by decide) (.tmp (.there rfl (.there rfl (.there rfl (.there rfl (.there rfl (.there rfl (.there rfl .here)))))))) hO (.tmp .here) ((Src.ofBlk Bb11 rfl)) (by simp) (by intro u hu; simp at hu; subst hu; rfl) (hK.size) (by omega) ?_
        intro v15 w16 hO18 hc17
        replace hK := hK.ownv hO hc17 (by omega)
        clear Bb11
        replace hO := hO18; clear hO18
        rw [one_bv (by omega) (by omega)] at hO
        have hO2 : Owns w16 w0.heap.size 5 1 v15 (1 + (t + 1)) ((u8 (32 * m + (i : Int)) :: hiB n wd (t + 1)).map bv) := by rw [hiB, ← Nat.add_assoc]; simpa using hO
        refine JL.val rfl (Run.assign (.tmp .here)) ?_
        refine JL.nil ?_
        refine JE.blk ?_
        refine JE.seq ?_
        refine JC.region ?_
        refine JL.val rfl (Run.move (.tmp (.there rfl (.there rfl (.there rfl (.there rfl (.there rfl (.there rfl (.there rfl (.there rfl (.there rfl (.there rfl (.there rfl (.there rfl (.there rfl (.there rfl (.there rfl (.there rfl (.there rfl (.there rfl (.there rfl .here))))))))))))))))))))) ?_
        refine JL.val rfl (Run.sub (.tmp .here) .const (wrap_i64 (by omega))) ?_
        refine JL.val rfl (Run.assign (.tmp .here)) ?_
        refine JL.nil ?_
        exact JE.again (t + 1, v15) (.cons (.there rfl (.there rfl (.there rfl (.there rfl (.there rfl (.there rfl (.there rfl (.there rfl (.there rfl (.there rfl (.there rfl (.there rfl (.there rfl (.there rfl (.there rfl .here))))))))))))))) (.cons (.there rfl (.there rfl (.there rfl (.there rfl (.there rfl (.there rfl (.there rfl (.there rfl (.there rfl (.there rfl (.there rfl (.there rfl (.there rfl (.there rfl (.there rfl (.there rfl .here)))))))))))))))) (.cons (.there rfl (.there rfl (.there rfl (.there rfl (.there rfl (.there rfl (.there rfl (.there rfl (.there rfl (.there rfl (.there rfl (.there rfl (.there rfl (.there rfl (.there rfl (.there rfl (.there rfl .here))))))))))))))))) (.cons (.there rfl (.there rfl (.there rfl (.there rfl (.there rfl (.there rfl (.there rfl (.there rfl (.there rfl (.there rfl (.there rfl (.there rfl (.there rfl (.there rfl (.there rfl (.there rfl (.there rfl (.there rfl .here)))))))))))))))))) (.cons (.there rfl (.there rfl (.there rfl (.there rfl (.there rfl (.there rfl (.there rfl (.there rfl (.there rfl (.there rfl (.there rfl (.there rfl (.there rfl (.there rfl (.there rfl (.there rfl (.there rfl (.there rfl (.there rfl .here))))))))))))))))))) (.cons (.there rfl (.there rfl (.there rfl (.there rfl (.there rfl (.there rfl (.there rfl (.there rfl (.there rfl (.there rfl (.there rfl (.there rfl (.there rfl (.there rfl (.there rfl (.there rfl (.there rfl (.there rfl (.there rfl (.there rfl .here)))))))))))))))))))) (.cons (.there rfl (.there rfl (.there rfl .here))) (.conse .here (congrArg (Value.int .i64) (by omega)) .nil)))))))) (⟨by omega, hO2, hK⟩) (by simp only [hmu10]; omega)
      · have hk := of_decide_eq_false hk
        obtain rfl : wd = t := by omega
        refine JC.exit ?_
        refine JE.exit_seq ?_
        refine JE.exit_seq ?_
        refine JE.exit_here ?_
        refine JE.seq ?_
        refine JC.seq ?_
        refine JC.region ?_
        refine JL.val rfl (Run.move (.tmp (.there rfl (.there rfl (.there rfl (.there rfl (.there rfl (.there rfl (.there rfl (.there rfl .here)))))))))) ?_
        refine JL.val rfl (Run.move (.tmp (.there rfl (.there rfl (.there rfl (.there rfl (.there rfl (.there rfl .here)))))))) ?_
        refine JL.appendS rfl @Try.underlying53 @Try.underlying53 (.inr ⟨_, rfl⟩) info_u8 (by rfl) (by decide) (.tmp (.there rfl .here)) hO (.tmp .here) ((Src.ofSlB (h.no hK))) (by simp) (bv_one _) (hK.size) (by omega) ?_
        intro v19 w20 hO22 hc21
        replace hK := hK.ownv hO hc21 (by omega)
        replace hO := hO22; clear hO22
        have hs2 : SlB w20 v19 (u8 (32 * m + (i : Int)) :: (hiB n wd wd ++ tl)) := SlB.ofOwns (by simpa using hO)
        have hbi : behindI (i : Int) = (wd : Nat) := by rcases hj with ⟨rfl, rfl⟩ | ⟨rfl, rfl⟩ | ⟨rfl, rfl⟩ | ⟨rfl, rfl⟩ <;> rfl
        have hr := readF_long (wide := wd) (i := (i : Int)) m0 m7 h0 (wide_fits (i := (i : Int)) h0 hn (by omega) (by omega)) (by omega) (by omega) hbi (by omega) tl
        refine JL.call rfl (Run.call @Try.call21 (.cons (.tmp .here) .nil)) (read_is hs2 hr) ?_
        rintro e w23 ⟨rfl, hc1⟩
        refine JRet.ret ?_
        replace hK := hK.no hc1
        refine JL.val rfl (Run.move (.tmp .here)) ?_
        refine JL.val rfl (Run.extract (.tmp .here) (by rfl)) ?_
        refine JL.val rfl (Run.extract (.tmp (.there rfl .here)) (by rfl)) ?_
        refine JL.alloc rfl (@Try.zeroValue66 _) ?_
        intro b24 w25 hg26 hc27 Bb24
        have ge_b24 : _ ≤ b24 := Nat.le_trans hK.size hg26
        replace hK := hK.no hc27
        refine JL.storeA (@Try.sizeOf66 _) (.tmp .here) (.tmp (.there rfl (.there rfl .here))) (by rfl) (by rfl) Bb24 rfl ?_
        intro w28 hc29 hb30
        replace hK := hK.own hc29 ge_b24
        replace Bb24 := hb30; clear hb30
        refine JL.val rfl (Run.assign (.tmp (.there rfl .here))) ?_
        refine JL.nil ?_
        refine JE.seq ?_
        refine JC.seq ?_
        refine JC.region ?_
        refine JL.val rfl (Run.move (.tmp .here)) ?_
        refine JL.call rfl (Run.call @Try.call22 (.cons (.tmp .here) .nil)) (num_any _ _) ?_
        rintro e w28 ⟨rfl, rfl⟩
        refine JRet.ret ?_
        refine JL.val rfl (Run.neq (.tmp .here) .const) ?_
        refine JL.val rfl (Run.move (.tmp .here)) ?_
        refine JL.gyesb (oj := _) (by rfl) (by rfl) .here (by simp [bne_iff_ne] <;> omega) ?_
        refine JL.val rfl (Run.fieldAddr (ft := 3) (foff := 0) (off := 0) @Try.underlying66 (by rfl) (@Try.sizeOf3 _) rfl rfl (.tmp (.there rfl (.there rfl (.there rfl (.there rfl (.there rfl .here))))))) ?_
        refine JL.gyesb (oj := _) (by rfl) (by rfl) (.there rfl .here) (by simp [bne_iff_ne] <;> omega) ?_
        refine JL.val rfl (Run.loadB (@Try.isAgg3 _) (.tmp .here) Bb24 (by rfl)) ?_
        refine JL.gyesb (oj := _) (by rfl) (by rfl) (.there rfl (.there rfl .here)) (by simp [bne_iff_ne] <;> omega) ?_
        refine JL.val rfl (Run.move (.tmp (.there rfl (.there rfl (.there rfl (.there rfl (.there rfl (.there rfl (.there rfl (.there rfl (.there rfl (.there rfl (.there rfl (.there rfl (.there rfl (.there rfl (.there rfl (.there rfl (.there rfl .here))))))))))))))))))) ?_
        refine JL.gyesb (oj := _) (by rfl) (by rfl) (.there rfl (.there rfl (.there rfl .here))) (by simp [bne_iff_ne] <;> omega) ?_
        refine JL.val rfl (Run.neq (.tmp (.there rfl .here)) (.tmp .here)) ?_
        refine JL.val rfl (Run.pickF (.tmp (.there rfl (.there rfl (.there rfl (.there rfl .here))))) (by simp [bne_iff_ne] <;> omega) (.tmp .here)) ?_
        refine JL.val rfl (Run.move (.tmp .here)) ?_
        refine JL.gyesb (oj := _) (by rfl) (by rfl) .here (by simp [bne_iff_ne] <;> omega) ?_
        refine JL.val rfl (Run.fieldAddr (ft := 3) (foff := 1) (off := 1) @Try.underlying66 (by rfl) (@Try.sizeOf3 _) rfl rfl (.tmp (.there rfl (.there rfl (.there rfl (.there rfl (.there rfl (.there rfl (.there rfl (.there rfl (.there rfl (.there rfl (.there rfl .here))))))))))))) ?_
        refine JL.gyesb (oj := _) (by rfl) (by rfl) (.there rfl .here) (by simp [bne_iff_ne] <;> omega) ?_
        refine JL.val rfl (Run.loadB (@Try.isAgg3 _) (.tmp .here) Bb24 (by rfl)) ?_
        refine JL.gyesb (oj := _) (by rfl) (by rfl) (.there rfl (.there rfl .here)) (by simp [bne_iff_ne] <;> omega) ?_
        refine JL.val rfl (Run.move (.tmp (.there rfl (.there rfl (.there rfl (.there rfl (.there rfl (.there rfl (.there rfl (.there rfl (.there rfl (.there rfl (.there rfl (.there rfl (.there rfl (.there rfl (.there rfl (.there rfl (.there rfl (.there rfl (.there rfl (.there rfl (.there rfl (.there rfl (.there rfl (.there rfl (.there rfl (.there rfl (.there rfl (.there rfl .here)))))))))))))))))))))))))))))) ?_
        refine JL.gyesb (oj := _) (by rfl) (by rfl) (.there rfl (.there rfl (.there rfl .here))) (by simp [bne_iff_ne] <;> omega) ?_
        refine JL.val rfl (Run.neq (.tmp (.there rfl .here)) (.tmp .here)) ?_
        refine JL.val rfl (Run.pickF (.tmp (.there rfl (.there rfl (.there rfl (.there rfl .here))))) (by simp [bne_iff_ne] <;> omega) (.tmp .here)) ?_
        refine JL.val rfl (Run.move (.tmp .here)) ?_
        refine JL.gyesb (oj := _) (by rfl) (by rfl) .here (by simp [bne_iff_ne] <;> omega) ?_
        refine JL.val rfl (Run.fieldAddr (ft := 50) (foff := 2) (off := 2) @Try.underlying66 (by rfl) (@Try.sizeOf50 _) rfl rfl (.tmp (.there rfl (.there rfl (.there rfl (.there rfl (.there rfl (.there rfl (.there rfl (.there rfl (.there rfl (.there rfl (.there rfl (.there rfl (.there rfl (.there rfl (.there rfl (.there rfl (.there rfl .here))))))))))))))))))) ?_
        refine JL.gyesb (oj := _) (by rfl) (by rfl) (.there rfl .here) (by simp [bne_iff_ne] <;> omega) ?_
        refine JL.val rfl (Run.loadB (@Try.isAgg50 _) (.tmp .here) Bb24 (by rfl)) ?_
        refine JL.gyesb (oj := _) (by rfl) (by rfl) (.there rfl (.there rfl .here)) (by simp [bne_iff_ne] <;> omega) ?_
        refine JL.val rfl (Run.move (.tmp (.there rfl (.there rfl (.there rfl (.there rfl (.there rfl (.there rfl (.there rfl (.there rfl (.there rfl (.there rfl (.there rfl (.there rfl (.there rfl (.there rfl (.there rfl (.there rfl (.there rfl (.there rfl (.there rfl (.there rfl (.there rfl (.there rfl (.there rfl (.there rfl (.there rfl (.there rfl (.there rfl (.there rfl (.there rfl (.there rfl .here)))))))))))))))))))))))))))))))) ?_
        refine JL.gyesb (oj := _) (by rfl) (by rfl) (.there rfl (.there rfl (.there rfl .here))) (by simp [bne_iff_ne] <;> omega) ?_
        refine JL.val rfl (Run.neq (.tmp (.there rfl .here)) (.tmp .here)) ?_
        refine JL.val rfl (Run.pickF (.tmp (.there rfl (.there rfl (.there rfl (.there rfl .here))))) (by simp [bne_iff_ne] <;> omega) (.tmp .here)) ?_
        refine JL.val rfl (Run.move (.tmp .here)) ?_
        refine JL.gyesb (oj := _) (by rfl) (by rfl) .here (by simp [bne_iff_ne] <;> omega) ?_
        refine JL.val rfl (Run.fieldAddr (ft := 3) (foff := 3) (off := 3) @Try.underlying66 (by rfl) (@Try.sizeOf3 _) rfl rfl (.tmp (.there rfl (.there rfl (.there rfl (.there rfl (.there rfl (.there rfl (.there rfl (.there rfl (.there rfl (.there rfl (.there rfl (.there rfl (.there rfl (.there rfl (.there rfl (.there rfl (.there rfl (.there rfl (.there rfl (.there rfl (.there rfl (.there rfl (.there rfl .here))))))))))))))))))))))))) ?_
        refine JL.gyesb (oj := _) (by rfl) (by rfl) (.there rfl .here) (by simp [bne_iff_ne] <;> omega) ?_
        refine JL.val rfl (Run.loadB (@Try.isAgg3 _) (.tmp .here) Bb24 (by rfl)) ?_
        refine JL.gyesb (oj := _) (by rfl) (by rfl) (.there rfl (.there rfl .here)) (by simp [bne_iff_ne] <;> omega) ?_
        refine JL.val rfl (Run.move (.tmp (.there rfl (.there rfl (.there rfl (.there rfl (.there rfl (.there rfl (.there rfl (.there rfl (.there rfl (.there rfl (.there rfl (.there rfl (.there rfl (.there rfl (.there rfl (.there rfl (.there rfl (.there rfl (.there rfl (.there rfl (.there rfl (.there rfl (.there rfl (.there rfl (.there rfl (.there rfl (.there rfl (.there rfl (.there rfl (.there rfl (.there rfl (.there rfl (.there rfl (.there rfl (.there rfl (.there rfl (.there rfl (.there rfl (.there rfl .here))))))))))))))))))))))))))))))))))))))))) ?_
        refine JL.gyesb (oj := _) (by rfl) (by rfl) (.there rfl (.there rfl (.there rfl .here))) (by simp [bne_iff_ne] <;> omega) ?_
        refine JL.val rfl (Run.add (.tmp .here) .const (wrap_i64 (by omega))) ?_
        refine JL.gyesb (oj := _) (by rfl) (by rfl) (.there rfl (.there rfl (.there rfl (.there rfl .here)))) (by simp [bne_iff_ne] <;> omega) ?_
        refine JL.val rfl (Run.neq (.tmp (.there rfl (.there rfl .here))) (.tmp .here)) ?_
        refine JL.val rfl (Run.pickF (.tmp (.there rfl (.there rfl (.there rfl (.there rfl (.there rfl .here)))))) (by simp [bne_iff_ne] <;> omega) (.tmp .here)) ?_
        refine JL.val rfl (Run.move (.tmp .here)) ?_
        refine JL.gyesb (oj := _) (by rfl) (by rfl) .here (by simp [bne_iff_ne] <;> omega) ?_
        refine JL.val rfl (Run.fieldAddr (ft := 4) (foff := 4) (off := 4) @Try.underlying66 (by rfl) (@Try.sizeOf4 _) rfl rfl (.tmp (.there rfl (.there rfl (.there rfl (.there rfl (.there rfl (.there rfl (.there rfl (.there rfl (.there rfl (.there rfl (.there rfl (.there rfl (.there rfl (.there rfl (.there rfl (.there rfl (.there rfl (.there rfl (.there rfl (.there rfl (.there rfl (.there rfl (.there rfl (.there rfl (.there rfl (.there rfl (.there rfl (.there rfl (.there rfl (.there rfl .here)))))))))))))))))))))))))))))))) ?_
        refine JL.gyesb (oj := _) (by rfl) (by rfl) (.there rfl .here) (by simp [bne_iff_ne] <;> omega) ?_
        refine JL.val rfl (Run.loadB (@Try.isAgg4 _) (.tmp .here) Bb24 (by rfl)) ?_
        refine JL.val rfl (Run.pickF (.tmp (.there rfl (.there rfl .here))) (by simp [bne_iff_ne] <;> omega) (.tmp .here)) ?_
        refine JL.nil ?_
        refine JE.seq ?_
        refine JC.condF (.tmp .here) (rfl) ?_
        refine JC.skip ?_
        refine JE.seq ?_
        refine JC.region ?_
        refine JL.val rfl (Run.move (.tmp (.there rfl (.there rfl (.there rfl (.there rfl (.there rfl (.there rfl (.there rfl (.there rfl (.there rfl (.there rfl (.there rfl (.there rfl (.there rfl (.there rfl (.there rfl (.there rfl (.there rfl (.there rfl (.there rfl (.there rfl (.there rfl (.there rfl (.there rfl (.there rfl (.there rfl (.there rfl (.there rfl (.there rfl (.there rfl (.there rfl (.there rfl (.there rfl (.there rfl (.there rfl (.there rfl (.there rfl (.there rfl (.there rfl (.there rfl (.there rfl (.there rfl (.there rfl (.there rfl (.there rfl (.there rfl (.there rfl (.there rfl .here))))))))))))))))))))))))))))))))))))))))))))))))) ?_
        refine JL.val rfl (Run.mul .const (.tmp .here) (wrap_i64 (by omega))) ?_
        refine JL.val rfl (Run.assign (.tmp .here)) ?_
        refine JL.nil ?_
        refine JE.blk ?_
        refine JE.seq ?_
        refine JC.region ?_
        refine JL.val rfl (Run.move (.tmp (.there rfl (.there rfl (.there rfl (.there rfl (.there rfl (.there rfl (.there rfl (.there rfl (.there rfl (.there rfl (.there rfl (.there rfl (.there rfl (.there rfl (.there rfl (.there rfl (.there rfl (.there rfl (.there rfl (.there rfl (.there rfl (.there rfl (.there rfl (.there rfl (.there rfl (.there rfl (.there rfl (.there rfl (.there rfl (.there rfl (.there rfl (.there rfl (.there rfl (.there rfl (.there rfl (.there rfl (.there rfl (.there rfl (.there rfl (.there rfl (.there rfl (.there rfl (.there rfl (.there rfl (.there rfl (.there rfl (.there rfl (.there rfl (.there rfl (.there rfl (.there rfl .here))))))))))))))))))))))))))))))))))))))))))))))))))))) ?_
        refine JL.val rfl (Run.add (.tmp .here) .const (wrap_i64 (by omega))) ?_
        refine JL.val rfl (Run.assign (.tmp .here)) ?_
        refine JL.nil ?_
        exact JE.again (i + 1, 2 * wd) (.cons (.there rfl (.there rfl (.there rfl (.there rfl (.there rfl (.there rfl (.there rfl (.there rfl (.there rfl (.there rfl (.there rfl (.there rfl (.there rfl (.there rfl (.there rfl (.there rfl (.there rfl (.there rfl (.there rfl (.there rfl (.there rfl (.there rfl (.there rfl (.there rfl (.there rfl (.there rfl (.there rfl (.there rfl (.there rfl (.there rfl (.there rfl (.there rfl (.there rfl (.there rfl (.there rfl (.there rfl (.there rfl (.there rfl (.there rfl (.there rfl (.there rfl (.there rfl (.there rfl (.there rfl (.there rfl (.there rfl (.there rfl (.there rfl (.there rfl .here))))))))))))))))))))))))))))))))))))))))))))))))) (.cons (.there rfl (.there rfl (.there rfl (.there rfl (.there rfl (.there rfl (.there rfl (.there rfl (.there rfl (.there rfl (.there rfl (.there rfl (.there rfl (.there rfl (.there rfl (.there rfl (.there rfl (.there rfl (.there rfl (.there rfl (.there rfl (.there rfl (.there rfl (.there rfl (.there rfl (.there rfl (.there rfl (.there rfl (.there rfl (.there rfl (.there rfl (.there rfl (.there rfl (.there rfl (.there rfl (.there rfl (.there rfl (.there rfl (.there rfl (.there rfl (.there rfl (.there rfl (.there rfl (.there rfl (.there rfl (.there rfl (.there rfl (.there rfl (.there rfl (.there rfl .here)))))))))))))))))))))))))))))))))))))))))))))))))) (.cons (.there rfl (.there rfl (.there rfl (.there rfl (.there rfl (.there rfl (.there rfl (.there rfl (.there rfl (.there rfl (.there rfl (.there rfl (.there rfl (.there rfl (.there rfl (.there rfl (.there rfl (.there rfl (.there rfl (.there rfl (.there rfl (.there rfl (.there rfl (.there rfl (.there rfl (.there rfl (.there rfl (.there rfl (.there rfl (.there rfl (.there rfl (.there rfl (.there rfl (.there rfl (.there rfl (.there rfl (.there rfl (.there rfl (.there rfl (.there rfl (.there rfl (.there rfl (.there rfl (.there rfl (.there rfl (.there rfl (.there rfl (.there rfl (.there rfl (.there rfl (.there rfl .here))))))))))))))))))))))))))))))))))))))))))))))))))) (.cons (.there rfl (.there rfl (.there rfl (.there rfl (.there rfl (.there rfl (.there rfl (.there rfl (.there rfl (.there rfl (.there rfl (.there rfl (.there rfl (.there rfl (.there rfl (.there rfl (.there rfl (.there rfl (.there rfl (.there rfl (.there rfl (.there rfl (.there rfl (.there rfl (.there rfl (.there rfl (.there rfl (.there rfl (.there rfl (.there rfl (.there rfl (.there rfl (.there rfl (.there rfl (.there rfl (.there rfl (.there rfl (.there rfl (.there rfl (.there rfl (.there rfl (.there rfl (.there rfl (.there rfl (.there rfl (.there rfl (.there rfl (.there rfl (.there rfl (.there rfl (.there rfl (.there rfl .here)))))))))))))))))))))))))))))))))))))))))))))))))))) (.conse (.there rfl (.there rfl (.there rfl .here))) (by simp) (.conse .here (by simp) .nil)))))) (⟨by omega, hK⟩) (by simp only [hmu3]; omega)
    · have hs := of_decide_eq_false hs
      refine JC.skip ?_
      refine JE.seq ?_
      refine JC.region ?_
      refine JL.val rfl (Run.move (.tmp (.there rfl (.there rfl (.there rfl (.there rfl (.there rfl (.there rfl (.there rfl (.there rfl (.there rfl (.there rfl .here)))))))))))) ?_
      refine JL.val rfl (Run.mul .const (.tmp .here) (wrap_i64 (by omega))) ?_
      refine JL.val rfl (Run.assign (.tmp .here)) ?_
      refine JL.nil ?_
      refine JE.blk ?_
      refine JE.seq ?_
      refine JC.region ?_
      refine JL.val rfl (Run.move (.tmp (.there rfl (.there rfl (.there rfl (.there rfl (.there rfl (.there rfl (.there rfl (.there rfl (.there rfl (.there rfl (.there rfl (.there rfl (.there rfl (.there rfl .here)))))))))))))))) ?_
      refine JL.val rfl (Run.add (.tmp .here) .const (wrap_i64 (by omega))) ?_
      refine JL.val rfl (Run.assign (.tmp .here)) ?_
      refine JL.nil ?_
      exact JE.again (i + 1, 2 * wd) (.cons (.there rfl (.there rfl (.there rfl (.there rfl (.there rfl (.there rfl (.there rfl (.there rfl (.there rfl (.there rfl (.there rfl (.there rfl .here)))))))))))) (.cons (.there rfl (.there rfl (.there rfl (.there rfl (.there rfl (.there rfl (.there rfl (.there rfl (.there rfl (.there rfl (.there rfl (.there rfl (.there rfl .here))))))))))))) (.cons (.there rfl (.there rfl (.there rfl (.there rfl (.there rfl (.there rfl (.there rfl (.there rfl (.there rfl (.there rfl (.there rfl (.there rfl (.there rfl (.there rfl .here)))))))))))))) (.cons (.there rfl (.there rfl (.there rfl (.there rfl (.there rfl (.there rfl (.there rfl (.there rfl (.there rfl (.there rfl (.there rfl (.there rfl (.there rfl (.there rfl (.there rfl .here))))))))))))))) (.conse (.there rfl (.there rfl (.there rfl .here))) (by simp) (.conse .here (by simp) .nil)))))) (⟨by omega, hK⟩) (by simp only [hmu3]; omega)
  · have h28 := of_decide_eq_false h28
    refine JC.exit ?_
    refine JE.exit_seq ?_
    refine JE.exit_seq ?_
    refine JE.exit_here ?_
    refine JE.seq ?_
    refine JC.seq ?_
    refine JC.region ?_
    refine JL.val rfl (Run.assign .const) ?_
    refine JL.nil ?_
    refine JE.keep (L := _) (.cons .here .nil) ?_
    refine JE.seq ?_
    refine JC.ret ?_
    refine JE.ret1 @Try.results23 .here ?_
    exact ⟨rfl, hK⟩


/-- A slice of arguments: a major and a number each. -/
def ArgsAt (w : World) (a : Option Addr) (ars : List (Int × Int)) : Prop := ars.length ≤ 9223372036854775807 ∧
  ∀ i (h : i < ars.length), ∃ b o, a = some ⟨b, o, none⟩ ∧ w.cell? ⟨b, o + i * 2, none⟩ = some (.int .i64 ars[i].1) ∧ w.cell? ⟨b, o + i * 2 + 1, none⟩ = some (.int .u64 ars[i].2) ∧ 0 ≤ ars[i].2 ∧ ars[i].2 < 18446744073709551616

set_option maxHeartbeats 2000000 in
theorem there_any {a : Option Addr} {cap : Nat} {ars : List (Int × Int)} {st : Value} {tl : List UInt8} (w0 : World) (hA : ArgsAt w0 a ars) (hst : SlB w0 st tl) :
    Calls Try.prog 4 #[.agg #[.slice a ars.length cap, st]] w0 fun e w' => e = .returned (.bool true) ∧ Ch No w0 w' := by
  have hK : Ch No w0 w0 := Ch.refl w0
  refine calls @Try.func4 rfl @Try.ntmps4 rfl ?_
  show JC _ _ _ _ _ [(0, .agg #[.slice a ars.length cap, st])] _
  refine JC.seq ?_
  refine JC.region ?_
  refine JL.box rfl (.tmp .here) ?_
  intro b1 w2 hg3 hc4 Bb1
  have ge_b1 : _ ≤ b1 := Nat.le_trans hK.size hg3
  replace hK := hK.no hc4
  refine JL.val rfl (Run.assign .const) ?_
  refine JL.nil ?_
  refine JE.seq ?_
  refine JC.seq ?_
  refine JC.seq ?_
  refine JC.region ?_
  refine JL.val rfl (Run.assign .const) ?_
  refine JL.nil ?_
  refine JE.seq ?_
  refine JC.block ?_
  refine JC.loop (α := Nat) (fun i => [(1, .pointer (some ⟨b1, 0, none⟩)), (3, .int .i64 (i : Int))]) (fun i w => i ≤ ars.length ∧ Blk w b1 63 [.slice a ars.length cap, st] ∧ Ch No w0 w) (fun i => ars.length - i) 0 ⟨Nat.zero_le _, Bb1, hK⟩ (.cons (.there rfl (.there rfl .here)) (.conse .here (rfl) .nil)) ?_
  rintro i w5 m6 ⟨hi, Bb1, hK⟩ hmu7
  show JC _ _ _ _ _ [(1, .pointer (some ⟨b1, 0, none⟩)), (3, .int .i64 (i : Int))] _
  have hal := hA.1
  refine JC.seq ?_
  refine JC.seq ?_
  refine JC.region ?_
  refine JL.val rfl (Run.move (.tmp (.there rfl .here))) ?_
  refine JL.val rfl (Run.fieldAddr (ft := 22) (foff := 0) (off := 0) @Try.underlying63 (by rfl) (@Try.sizeOf22 _) rfl rfl (.tmp (.there rfl .here))) ?_
  refine JL.val rfl (Run.loadB (@Try.isAgg22 _) (.tmp .here) Bb1 (by rfl)) ?_
  refine JL.val rfl (Run.len @Try.underlying22 (.tmp .here)) ?_
  refine JL.val rfl (Run.lss (.tmp (.there rfl (.there rfl (.there rfl .here)))) (.tmp .here)) ?_
  refine JL.nil ?_
  refine JE.seq ?_
  refine JC.cond (.tmp .here) (fun hlt => ?_) (fun hlt => ?_)
  · have hlt := of_decide_eq_true hlt
    have hil : i < ars.length := by omega
    obtain ⟨b, o, rfl, hc1, hc2, hn0, hn1⟩ := hA.2 i hil
    have hw := within_bd (i := ars[i].1) (n := 7) (by decide)
    obtain ⟨hw0, hw7⟩ := hw
    obtain ⟨M, hM⟩ : ∃ M, M = withinI ars[i].1 7 := ⟨_, rfl⟩
    obtain ⟨nn, hnn⟩ : ∃ x, x = ars[i].2 := ⟨_, rfl⟩
    rw [← hnn] at hc2 hn0 hn1
    rw [← hM] at hw0 hw7
    have HM := Lib.hid hM; clear hM
    have hmi := hw0
    have hmj := hw7
    refine JC.skip ?_
    refine JE.seq ?_
    refine JC.seq ?_
    refine JC.block ?_
    refine JC.seq ?_
    refine JC.region ?_
    refine JL.val rfl (Run.fieldAddr (ft := 22) (foff := 0) (off := 0) @Try.underlying63 (by rfl) (@Try.sizeOf22 _) rfl rfl (.tmp (.there rfl (.there rfl (.there rfl (.there rfl (.there rfl .here))))))) ?_
    refine JL.val rfl (Run.loadB (@Try.isAgg22 _) (.tmp .here) Bb1 (by rfl)) ?_
    refine JL.val rfl (Run.move (.tmp (.there rfl (.there rfl (.there rfl (.there rfl (.there rfl (.there rfl (.there rfl (.there rfl .here)))))))))) ?_
    refine JL.val rfl (Run.indexAddr (m := i) @Try.underlying22 (@Try.sizeOf52 _) (.tmp (.there rfl .here)) (.tmp .here) (rfl) (by omega) rfl) ?_
    refine JL.val rfl (Run.fieldAddr (ft := 3) (foff := 0) @Try.underlying52 (by rfl) (@Try.sizeOf3 _) rfl rfl (.tmp .here)) ?_
    refine JL.val rfl (Run.load (@Try.isAgg3 _) (.tmp .here) (by first | exact (hK.cell hc1) | exact (hK.cell hc2))) ?_
    refine JL.call rfl (Run.call @Try.call19 (.cons (.tmp .here) (.cons .const .nil))) (within_any ars[i].1 7 (by decide) (by decide) _) ?_
    rintro e w5 ⟨rfl, rfl⟩
    refine JRet.ret ?_
    rw [← HM.out]
    refine JL.val rfl (Run.assign (.tmp .here)) ?_
    refine JL.nil ?_
    refine JE.seq ?_
    refine JC.seq ?_
    refine JC.region ?_
    refine JL.val rfl (Run.fieldAddr (ft := 22) (foff := 0) (off := 0) @Try.underlying63 (by rfl) (@Try.sizeOf22 _) rfl rfl (.tmp (.there rfl (.there rfl (.there rfl (.there rfl (.there rfl (.there rfl (.there rfl (.there rfl (.there rfl (.there rfl (.there rfl (.there rfl (.there rfl .here))))))))))))))) ?_
    refine JL.val rfl (Run.loadB (@Try.isAgg22 _) (.tmp .here) Bb1 (by rfl)) ?_
    refine JL.val rfl (Run.move (.tmp (.there rfl (.there rfl (.there rfl (.there rfl (.there rfl (.there rfl (.there rfl (.there rfl (.there rfl (.there rfl (.there rfl (.there rfl (.there rfl (.there rfl (.there rfl (.there rfl .here)))))))))))))))))) ?_
    refine JL.val rfl (Run.indexAddr (m := i) @Try.underlying22 (@Try.sizeOf52 _) (.tmp (.there rfl .here)) (.tmp .here) (rfl) (by omega) rfl) ?_
    refine JL.val rfl (Run.fieldAddr (ft := 50) (foff := 1) @Try.underlying52 (by rfl) (@Try.sizeOf50 _) rfl rfl (.tmp .here)) ?_
    refine JL.val rfl (Run.load (@Try.isAgg50 _) (.tmp .here) (by first | exact (hK.cell hc1) | exact (hK.cell hc2))) ?_
    refine JL.val rfl (Run.assign (.tmp .here)) ?_
    refine JL.nil ?_
    refine JE.seq ?_
    refine JC.seq ?_
    refine JC.region ?_
    refine JL.val rfl (Run.move (.tmp (.there rfl (.there rfl (.there rfl (.there rfl (.there rfl (.there rfl (.there rfl .here))))))))) ?_
    refine JL.val rfl (Run.move (.tmp (.there rfl .here))) ?_
    refine JL.call rfl (Run.call @Try.call6 (.cons (.tmp (.there rfl .here)) (.cons (.tmp .here) .nil))) (lay_any M nn (by omega) (by omega) (by omega) _) ?_
    rintro e w9 ⟨v1, rfl, hO1, hc3⟩
    refine JRet.ret ?_
    replace Bb1 := Bb1.no hc3
    replace hK := hK.no hc3
    rw [layB_bv (by omega) (by omega) hn0, ← layB_len] at hO1
    have hlp : 0 < (layB M nn).length := by simp [layB, layI]
    obtain ⟨lb, lcap, rfl, hl1, hl2, hl3, hl4⟩ := hO1.some hlp
    have hll : (layB M nn).length ≤ 9 := by have := lay_size hn0 hn1 M; have h2 := behind_bd (infoI nn); rw [← layB_len] at this; unfold sizeI at this; omega
    refine JL.val rfl (Run.assign (.tmp .here)) ?_
    refine JL.nil ?_
    refine JE.seq ?_
    refine JC.seq ?_
    refine JC.region ?_
    refine JL.val rfl (Run.fieldAddr (ft := 53) (foff := 1) (off := 1) @Try.underlying63 (by rfl) (@Try.sizeOf53 _) rfl rfl (.tmp (.there rfl (.there rfl (.there rfl (.there rfl (.there rfl (.there rfl (.there rfl (.there rfl (.there rfl (.there rfl (.there rfl (.there rfl (.there rfl (.there rfl (.there rfl (.there rfl (.there rfl (.there rfl (.there rfl (.there rfl (.there rfl (.there rfl (.there rfl (.there rfl .here)))))))))))))))))))))))))) ?_
    refine JL.val rfl (Run.loadB (@Try.isAgg53 _) (.tmp .here) Bb1 (by rfl)) ?_
    refine JL.call rfl (Run.call @Try.call20 (.cons (.tmp .here) .nil)) (first_any _ (hst.no hK)) ?_
    rintro e w9 ⟨tv, rfl, htv, rfl⟩
    refine JRet.ret ?_
    have hX : Ch No w9 w9 := Ch.refl _
    have szhX := hK.size
    refine JL.val rfl (Run.assign (.tmp .here)) ?_
    refine JL.nil ?_
    refine JE.seq ?_
    refine JC.seq ?_
    refine JC.region ?_
    refine JL.lit0 rfl @Try.underlying53 (@Try.sizeOf5 _) ?_
    intro b10 w11 hg12 hc13 Bb10
    have gehX_b10 : w9.heap.size ≤ b10 := Nat.le_trans hX.size hg12
    have ge_b10 : _ ≤ b10 := Nat.le_trans hK.size hg12
    replace hX := hX.no hc13
    replace hK := hK.no hc13
    have hO14 : Owns _ w9.heap.size 5 1 (.slice (some ⟨b10, 0, none⟩) 0 0) 0 [] := Owns.ofBlk (cs := []) Bb10 (by omega) (by rfl) (by omega) (by omega)
    have htl : (tl.take 1048576).length ≤ 1048576 := by simp; omega
    refine JL.val rfl (Run.move (.tmp (.there rfl (.there rfl (.there rfl (.there rfl (.there rfl .here))))))) ?_
    refine JL.appendS rfl @Try.underlying53 @Try.underlying53 (.inr ⟨_, rfl⟩) info_u8 (by rfl) (by decide) (.tmp (.there rfl .here)) hO14 (.tmp .here) ((Src.ofSlB ((SlB.ofOwns hO1).no hX))) (by simp) (bv_one _) (hX.size) (by omega) ?_
    intro v15 w16 hO18 hc17
    replace hX := hX.ownv hO14 hc17 (by omega)
    replace hK := hK.ownv hO14 hc17 (by omega)
    replace hO14 := hO18; clear hO18
    refine JL.val rfl (Run.move (.tmp (.there rfl (.there rfl (.there rfl .here))))) ?_
    refine JL.appendS rfl @Try.underlying53 @Try.underlying53 (.inr ⟨_, rfl⟩) info_u8 (by rfl) (by decide) (.tmp (.there rfl .here)) hO14 (.tmp .here) ((Src.ofSlB (htv.no hX))) (by simp) (bv_one _) (hX.size) (by omega) ?_
    intro v19 w20 hO22 hc21
    replace hX := hX.ownv hO14 hc21 (by omega)
    replace hK := hK.ownv hO14 hc21 (by omega)
    replace hO14 := hO22; clear hO22
    have hs2 : SlB w20 v19 (layB M nn ++ tl.take 1048576) := SlB.ofOwns (by simpa using hO14)
    clear hO14
    refine JL.call rfl (Run.call @Try.call21 (.cons (.tmp .here) .nil)) (read_is hs2 (readF_lay (by omega) (by omega) hn0 hn1 _)) ?_
    rintro e w23 ⟨rfl, hc5⟩
    refine JRet.ret ?_
    replace hX := hX.no hc5
    replace hK := hK.no hc5
    have hsz := lay_size hn0 hn1 M
    rw [← layB_len] at hsz
    have hbd := info_bd hn0
    refine JL.val rfl (Run.move (.tmp .here)) ?_
    refine JL.val rfl (Run.extract (.tmp .here) (by rfl)) ?_
    refine JL.val rfl (Run.extract (.tmp (.there rfl .here)) (by rfl)) ?_
    refine JL.alloc rfl (@Try.zeroValue66 _) ?_
    intro b24 w25 hg26 hc27 Bb24
    have gehX_b24 : w9.heap.size ≤ b24 := Nat.le_trans hX.size hg26
    have ge_b24 : _ ≤ b24 := Nat.le_trans hK.size hg26
    replace hX := hX.no hc27
    replace hK := hK.no hc27
    refine JL.storeA (@Try.sizeOf66 _) (.tmp .here) (.tmp (.there rfl (.there rfl .here))) (by rfl) (by rfl) Bb24 rfl ?_
    intro w28 hc29 hb30
    replace hX := hX.own hc29 (by omega)
    replace hK := hK.own hc29 ge_b24
    replace Bb24 := hb30; clear hb30
    refine JL.val rfl (Run.assign (.tmp (.there rfl .here))) ?_
    refine JL.nil ?_
    refine JE.seq ?_
    refine JC.seq ?_
    refine JC.seq ?_
    refine JC.region ?_
    refine JL.val rfl (Run.move (.tmp .here)) ?_
    refine JL.call rfl (Run.call @Try.call22 (.cons (.tmp .here) .nil)) (num_any _ _) ?_
    rintro e w28 ⟨rfl, rfl⟩
    refine JRet.ret ?_
    refine JL.val rfl (Run.neq (.tmp .here) .const) ?_
    refine JL.val rfl (Run.move (.tmp .here)) ?_
    refine JL.gyesb (oj := _) (by rfl) (by rfl) .here (by simp [bne_iff_ne] <;> omega) ?_
    refine JL.val rfl (Run.fieldAddr (ft := 3) (foff := 0) (off := 0) @Try.underlying66 (by rfl) (@Try.sizeOf3 _) rfl rfl (.tmp (.there rfl (.there rfl (.there rfl (.there rfl (.there rfl .here))))))) ?_
    refine JL.gyesb (oj := _) (by rfl) (by rfl) (.there rfl .here) (by simp [bne_iff_ne] <;> omega) ?_
    refine JL.val rfl (Run.loadB (@Try.isAgg3 _) (.tmp .here) Bb24 (by rfl)) ?_
    refine JL.gyesb (oj := _) (by rfl) (by rfl) (.there rfl (.there rfl .here)) (by simp [bne_iff_ne] <;> omega) ?_
    refine JL.val rfl (Run.move (.tmp (.there rfl (.there rfl (.there rfl (.there rfl (.there rfl (.there rfl (.there rfl (.there rfl (.there rfl (.there rfl (.there rfl (.there rfl (.there rfl (.there rfl (.there rfl (.there rfl (.there rfl (.there rfl (.there rfl (.there rfl (.there rfl (.there rfl (.there rfl (.there rfl (.there rfl (.there rfl (.there rfl (.there rfl (.there rfl (.there rfl (.there rfl (.there rfl .here)))))))))))))))))))))))))))))))))) ?_
    refine JL.gyesb (oj := _) (by rfl) (by rfl) (.there rfl (.there rfl (.there rfl .here))) (by simp [bne_iff_ne] <;> omega) ?_
    refine JL.val rfl (Run.neq (.tmp (.there rfl .here)) (.tmp .here)) ?_
    refine JL.val rfl (Run.pickF (.tmp (.there rfl (.there rfl (.there rfl (.there rfl .here))))) (by simp [bne_iff_ne] <;> omega) (.tmp .here)) ?_
    refine JL.val rfl (Run.move (.tmp .here)) ?_
    refine JL.gyesb (oj := _) (by rfl) (by rfl) .here (by simp [bne_iff_ne] <;> omega) ?_
    refine JL.val rfl (Run.fieldAddr (ft := 50) (foff := 2) (off := 2) @Try.underlying66 (by rfl) (@Try.sizeOf50 _) rfl rfl (.tmp (.there rfl (.there rfl (.there rfl (.there rfl (.there rfl (.there rfl (.there rfl (.there rfl (.there rfl (.there rfl (.there rfl .here))))))))))))) ?_
    refine JL.gyesb (oj := _) (by rfl) (by rfl) (.there rfl .here) (by simp [bne_iff_ne] <;> omega) ?_
    refine JL.val rfl (Run.loadB (@Try.isAgg50 _) (.tmp .here) Bb24 (by rfl)) ?_
    refine JL.gyesb (oj := _) (by rfl) (by rfl) (.there rfl (.there rfl .here)) (by simp [bne_iff_ne] <;> omega) ?_
    refine JL.val rfl (Run.move (.tmp (.there rfl (.there rfl (.there rfl (.there rfl (.there rfl (.there rfl (.there rfl (.there rfl (.there rfl (.there rfl (.there rfl (.there rfl (.there rfl (.there rfl (.there rfl (.there rfl (.there rfl (.there rfl (.there rfl (.there rfl (.there rfl (.there rfl (.there rfl (.there rfl (.there rfl (.there rfl (.there rfl (.there rfl (.there rfl (.there rfl (.there rfl .here))))))))))))))))))))))))))))))))) ?_
    refine JL.gyesb (oj := _) (by rfl) (by rfl) (.there rfl (.there rfl (.there rfl .here))) (by simp [bne_iff_ne] <;> omega) ?_
    refine JL.val rfl (Run.neq (.tmp (.there rfl .here)) (.tmp .here)) ?_
    refine JL.val rfl (Run.pickF (.tmp (.there rfl (.there rfl (.there rfl (.there rfl .here))))) (by simp [bne_iff_ne] <;> omega) (.tmp .here)) ?_
    refine JL.val rfl (Run.move (.tmp .here)) ?_
    refine JL.gyesb (oj := _) (by rfl) (by rfl) .here (by simp [bne_iff_ne] <;> omega) ?_
    refine JL.val rfl (Run.fieldAddr (ft := 3) (foff := 3) (off := 3) @Try.underlying66 (by rfl) (@Try.sizeOf3 _) rfl rfl (.tmp (.there rfl (.there rfl (.there rfl (.there rfl (.there rfl (.there rfl (.there rfl (.there rfl (.there rfl (.there rfl (.there rfl (.there rfl (.there rfl (.there rfl (.there rfl (.there rfl (.there rfl .here))))))))))))))))))) ?_
    refine JL.gyesb (oj := _) (by rfl) (by rfl) (.there rfl .here) (by simp [bne_iff_ne] <;> omega) ?_
    refine JL.val rfl (Run.loadB (@Try.isAgg3 _) (.tmp .here) Bb24 (by rfl)) ?_
    refine JL.gyesb (oj := _) (by rfl) (by rfl) (.there rfl (.there rfl .here)) (by simp [bne_iff_ne] <;> omega) ?_
    refine JL.val rfl (Run.move (.tmp (.there rfl (.there rfl (.there rfl (.there rfl (.there rfl (.there rfl (.there rfl (.there rfl (.there rfl (.there rfl (.there rfl (.there rfl (.there rfl (.there rfl (.there rfl (.there rfl (.there rfl (.there rfl (.there rfl (.there rfl (.there rfl (.there rfl (.there rfl (.there rfl (.there rfl (.there rfl (.there rfl (.there rfl (.there rfl (.there rfl (.there rfl (.there rfl (.there rfl .here))))))))))))))))))))))))))))))))))) ?_
    refine JL.gyesb (oj := _) (by rfl) (by rfl) (.there rfl (.there rfl (.there rfl .here))) (by simp [bne_iff_ne] <;> omega) ?_
    refine JL.val rfl (Run.len @Try.underlying53 (.tmp .here)) ?_
    refine JL.gyesb (oj := _) (by rfl) (by rfl) (.there rfl (.there rfl (.there rfl (.there rfl .here)))) (by simp [bne_iff_ne] <;> omega) ?_
    refine JL.val rfl (Run.neq (.tmp (.there rfl (.there rfl .here))) (.tmp .here)) ?_
    refine JL.val rfl (Run.pickF (.tmp (.there rfl (.there rfl (.there rfl (.there rfl (.there rfl .here)))))) (by simp [bne_iff_ne] <;> omega) (.tmp .here)) ?_
    refine JL.val rfl (Run.move (.tmp .here)) ?_
    refine JL.gyesb (oj := _) (by rfl) (by rfl) .here (by simp [bne_iff_ne] <;> omega) ?_
    refine JL.val rfl (Run.move (.tmp (.there rfl (.there rfl (.there rfl (.there rfl (.there rfl (.there rfl (.there rfl (.there rfl (.there rfl (.there rfl (.there rfl (.there rfl (.there rfl (.there rfl (.there rfl (.there rfl (.there rfl (.there rfl (.there rfl (.there rfl (.there rfl (.there rfl (.there rfl (.there rfl (.there rfl (.there rfl (.there rfl (.there rfl (.there rfl (.there rfl (.there rfl (.there rfl (.there rfl (.there rfl (.there rfl (.there rfl (.there rfl (.there rfl (.there rfl (.there rfl (.there rfl (.there rfl .here)))))))))))))))))))))))))))))))))))))))))))) ?_
    refine JL.gyesb (oj := _) (by rfl) (by rfl) (.there rfl .here) (by simp [bne_iff_ne] <;> omega) ?_
    refine JL.call rfl (Run.call @Try.call8 (.cons (.tmp .here) .nil)) (size_any _ (by omega) _) ?_
    rintro e w28 ⟨rfl, rfl⟩
    refine JRet.ret ?_
    refine JL.gyesb (oj := _) (by rfl) (by rfl) (.there rfl (.there rfl .here)) (by simp [bne_iff_ne] <;> omega) ?_
    refine JL.val rfl (Run.move (.tmp (.there rfl (.there rfl (.there rfl (.there rfl (.there rfl (.there rfl (.there rfl (.there rfl (.there rfl (.there rfl (.there rfl (.there rfl (.there rfl (.there rfl (.there rfl (.there rfl (.there rfl (.there rfl (.there rfl (.there rfl (.there rfl (.there rfl (.there rfl (.there rfl (.there rfl (.there rfl (.there rfl (.there rfl (.there rfl (.there rfl (.there rfl (.there rfl (.there rfl (.there rfl (.there rfl (.there rfl (.there rfl (.there rfl (.there rfl (.there rfl .here)))))))))))))))))))))))))))))))))))))))))) ?_
    refine JL.gyesb (oj := _) (by rfl) (by rfl) (.there rfl (.there rfl (.there rfl .here))) (by simp [bne_iff_ne] <;> omega) ?_
    refine JL.val rfl (Run.len @Try.underlying53 (.tmp .here)) ?_
    refine JL.gyesb (oj := _) (by rfl) (by rfl) (.there rfl (.there rfl (.there rfl (.there rfl .here)))) (by simp [bne_iff_ne] <;> omega) ?_
    refine JL.val rfl (Run.neq (.tmp (.there rfl (.there rfl .here))) (.tmp .here)) ?_
    refine JL.val rfl (Run.pickF (.tmp (.there rfl (.there rfl (.there rfl (.there rfl (.there rfl .here)))))) (by simp [bne_iff_ne] <;> omega) (.tmp .here)) ?_
    refine JL.val rfl (Run.move (.tmp .here)) ?_
    refine JL.gyesb (oj := _) (by rfl) (by rfl) .here (by simp [bne_iff_ne] <;> omega) ?_
    refine JL.val rfl (Run.fieldAddr (ft := 4) (foff := 4) (off := 4) @Try.underlying66 (by rfl) (@Try.sizeOf4 _) rfl rfl (.tmp (.there rfl (.there rfl (.there rfl (.there rfl (.there rfl (.there rfl (.there rfl (.there rfl (.there rfl (.there rfl (.there rfl (.there rfl (.there rfl (.there rfl (.there rfl (.there rfl (.there rfl (.there rfl (.there rfl (.there rfl (.there rfl (.there rfl (.there rfl (.there rfl (.there rfl (.there rfl (.there rfl (.there rfl (.there rfl (.there rfl (.there rfl .here))))))))))))))))))))))))))))))))) ?_
    refine JL.gyesb (oj := _) (by rfl) (by rfl) (.there rfl .here) (by simp [bne_iff_ne] <;> omega) ?_
    refine JL.val rfl (Run.loadB (@Try.isAgg4 _) (.tmp .here) Bb24 (by rfl)) ?_
    refine JL.gyesb (oj := _) (by rfl) (by rfl) (.there rfl (.there rfl .here)) (by simp [bne_iff_ne] <;> omega) ?_
    refine JL.val rfl (Run.not (.tmp .here)) ?_
    refine JL.val rfl (Run.pickF (.tmp (.there rfl (.there rfl (.there rfl .here)))) (by simp [bne_iff_ne] <;> omega) (.tmp .here)) ?_
    refine JL.val rfl (Run.move (.tmp .here)) ?_
    refine JL.gyesb (oj := _) (by rfl) (by rfl) .here (by simp [bne_iff_ne] <;> omega) ?_
    refine JL.val rfl (Run.fieldAddr (ft := 3) (foff := 1) (off := 1) @Try.underlying66 (by rfl) (@Try.sizeOf3 _) rfl rfl (.tmp (.there rfl (.there rfl (.there rfl (.there rfl (.there rfl (.there rfl (.there rfl (.there rfl (.there rfl (.there rfl (.there rfl (.there rfl (.there rfl (.there rfl (.there rfl (.there rfl (.there rfl (.there rfl (.there rfl (.there rfl (.there rfl (.there rfl (.there rfl (.there rfl (.there rfl (.there rfl (.there rfl (.there rfl (.there rfl (.there rfl (.there rfl (.there rfl (.there rfl (.there rfl (.there rfl (.there rfl .here)))))))))))))))))))))))))))))))))))))) ?_
    refine JL.gyesb (oj := _) (by rfl) (by rfl) (.there rfl .here) (by simp [bne_iff_ne] <;> omega) ?_
    refine JL.val rfl (Run.loadB (@Try.isAgg3 _) (.tmp .here) Bb24 (by rfl)) ?_
    refine JL.gyesb (oj := _) (by rfl) (by rfl) (.there rfl (.there rfl .here)) (by simp [bne_iff_ne] <;> omega) ?_
    refine JL.val rfl (Run.gtr (.tmp .here) .const) ?_
    refine JL.val rfl (Run.pickF (.tmp (.there rfl (.there rfl (.there rfl .here)))) (by simp [bne_iff_ne] <;> omega) (.tmp .here)) ?_
    refine JL.nil ?_
    refine JE.seq ?_
    refine JC.condF (.tmp .here) (by simp; omega) ?_
    replace Bb1 := Bb1.no hX
    replace hO1 := hO1.no hX
    replace htv := htv.no hX
    refine JC.skip ?_
    refine JE.seq ?_
    refine JC.seq ?_
    refine JC.seq ?_
    refine JC.region ?_
    refine JL.val rfl (Run.assign .const) ?_
    refine JL.nil ?_
    refine JE.seq ?_
    refine JC.block ?_
    refine JC.loop (α := Nat) (fun k => [(1, .pointer (some ⟨b1, 0, none⟩)), (3, .int .i64 (i : Int)), (4, .int .i64 M), (5, .int .u64 nn), (6, .slice (some ⟨lb, 0, none⟩) (layB M nn).length lcap), (7, tv), (10, .int .i64 (k : Int))]) (fun k w => k ≤ (layB M nn).length ∧ Blk w b1 63 [.slice (some ⟨b, o, none⟩) ars.length cap, st] ∧ Owns w w5.heap.size 5 1 (.slice (some ⟨lb, 0, none⟩) (layB M nn).length lcap) (layB M nn).length ((layB M nn).map bv) ∧ SlB w tv (tl.take 1048576) ∧ Ch No w0 w) (fun k => (layB M nn).length - k) 0 ⟨Nat.zero_le _, Bb1, hO1, htv, hK⟩ (.cons (.there rfl (.there rfl (.there rfl (.there rfl (.there rfl (.there rfl (.there rfl (.there rfl (.there rfl (.there rfl (.there rfl (.there rfl (.there rfl (.there rfl (.there rfl (.there rfl (.there rfl (.there rfl (.there rfl (.there rfl (.there rfl (.there rfl (.there rfl (.there rfl (.there rfl (.there rfl (.there rfl (.there rfl (.there rfl (.there rfl (.there rfl (.there rfl (.there rfl (.there rfl (.there rfl (.there rfl (.there rfl (.there rfl (.there rfl (.there rfl (.there rfl (.there rfl (.there rfl (.there rfl (.there rfl (.there rfl (.there rfl (.there rfl (.there rfl (.there rfl (.there rfl (.there rfl (.there rfl (.there rfl (.there rfl (.there rfl (.there rfl (.there rfl (.there rfl (.there rfl (.there rfl (.there rfl (.there rfl (.there rfl (.there rfl (.there rfl (.there rfl (.there rfl (.there rfl (.there rfl (.there rfl (.there rfl (.there rfl (.there rfl (.there rfl (.there rfl (.there rfl (.there rfl (.there rfl .here))))))))))))))))))))))))))))))))))))))))))))))))))))))))))))))))))))))))))))))) (.cons (.there rfl (.there rfl (.there rfl (.there rfl (.there rfl (.there rfl (.there rfl (.there rfl (.there rfl (.there rfl (.there rfl (.there rfl (.there rfl (.there rfl (.there rfl (.there rfl (.there rfl (.there rfl (.there rfl (.there rfl (.there rfl (.there rfl (.there rfl (.there rfl (.there rfl (.there rfl (.there rfl (.there rfl (.there rfl (.there rfl (.there rfl (.there rfl (.there rfl (.there rfl (.there rfl (.there rfl (.there rfl (.there rfl (.there rfl (.there rfl (.there rfl (.there rfl (.there rfl (.there rfl (.there rfl (.there rfl (.there rfl (.there rfl (.there rfl (.there rfl (.there rfl (.there rfl (.there rfl (.there rfl (.there rfl (.there rfl (.there rfl (.there rfl (.there rfl (.there rfl (.there rfl (.there rfl (.there rfl (.there rfl (.there rfl (.there rfl (.there rfl (.there rfl (.there rfl (.there rfl (.there rfl (.there rfl (.there rfl (.there rfl (.there rfl (.there rfl (.there rfl (.there rfl (.there rfl (.there rfl .here)))))))))))))))))))))))))))))))))))))))))))))))))))))))))))))))))))))))))))))))) (.cons (.there rfl (.there rfl (.there rfl (.there rfl (.there rfl (.there rfl (.there rfl (.there rfl (.there rfl (.there rfl (.there rfl (.there rfl (.there rfl (.there rfl (.there rfl (.there rfl (.there rfl (.there rfl (.there rfl (.there rfl (.there rfl (.there rfl (.there rfl (.there rfl (.there rfl (.there rfl (.there rfl (.there rfl (.there rfl (.there rfl (.there rfl (.there rfl (.there rfl (.there rfl (.there rfl (.there rfl (.there rfl (.there rfl (.there rfl (.there rfl (.there rfl (.there rfl (.there rfl (.there rfl (.there rfl (.there rfl (.there rfl (.there rfl (.there rfl (.there rfl (.there rfl (.there rfl (.there rfl (.there rfl (.there rfl (.there rfl (.there rfl (.there rfl (.there rfl (.there rfl (.there rfl (.there rfl (.there rfl (.there rfl (.there rfl (.there rfl .here)))))))))))))))))))))))))))))))))))))))))))))))))))))))))))))))))) (.cons (.there rfl (.there rfl (.there rfl (.there rfl (.there rfl (.there rfl (.there rfl (.there rfl (.there rfl (.there rfl (.there rfl (.there rfl (.there rfl (.there rfl (.there rfl (.there rfl (.there rfl (.there rfl (.there rfl (.there rfl (.there rfl (.there rfl (.there rfl (.there rfl (.there rfl (.there rfl (.there rfl (.there rfl (.there rfl (.there rfl (.there rfl (.there rfl (.there rfl (.there rfl (.there rfl (.there rfl (.there rfl (.there rfl (.there rfl (.there rfl (.there rfl (.there rfl (.there rfl (.there rfl (.there rfl (.there rfl (.there rfl (.there rfl (.there rfl (.there rfl (.there rfl (.there rfl (.there rfl (.there rfl (.there rfl (.there rfl (.there rfl (.there rfl (.there rfl .here))))))))))))))))))))))))))))))))))))))))))))))))))))))))))) (.cons (.there rfl (.there rfl (.there rfl (.there rfl (.there rfl (.there rfl (.there rfl (.there rfl (.there rfl (.there rfl (.there rfl (.there rfl (.there rfl (.there rfl (.there rfl (.there rfl (.there rfl (.there rfl (.there rfl (.there rfl (.there rfl (.there rfl (.there rfl (.there rfl (.there rfl (.there rfl (.there rfl (.there rfl (.there rfl (.there rfl (.there rfl (.there rfl (.there rfl (.there rfl (.there rfl (.there rfl (.there rfl (.there rfl (.there rfl (.there rfl (.there rfl (.there rfl (.there rfl (.there rfl (.there rfl (.there rfl (.there rfl (.there rfl (.there rfl (.there rfl (.there rfl (.there rfl (.there rfl (.there rfl (.there rfl .here))))))))))))))))))))))))))))))))))))))))))))))))))))))) (.cons (.there rfl (.there rfl (.there rfl (.there rfl (.there rfl (.there rfl (.there rfl (.there rfl (.there rfl (.there rfl (.there rfl (.there rfl (.there rfl (.there rfl (.there rfl (.there rfl (.there rfl (.there rfl (.there rfl (.there rfl (.there rfl (.there rfl (.there rfl (.there rfl (.there rfl (.there rfl (.there rfl (.there rfl (.there rfl (.there rfl (.there rfl (.there rfl (.there rfl (.there rfl (.there rfl (.there rfl (.there rfl (.there rfl (.there rfl (.there rfl (.there rfl (.there rfl (.there rfl (.there rfl (.there rfl (.there rfl (.there rfl (.there rfl (.there rfl (.there rfl (.there rfl .here))))))))))))))))))))))))))))))))))))))))))))))))))) (.conse .here (rfl) .nil))))))) ?_
    rintro k w31 m32 ⟨hk, Bb1, hO1, htv, hK⟩ hmu33
    show JC _ _ _ _ _ [(1, .pointer (some ⟨b1, 0, none⟩)), (3, .int .i64 (i : Int)), (4, .int .i64 M), (5, .int .u64 nn), (6, .slice (some ⟨lb, 0, none⟩) (layB M nn).length lcap), (7, tv), (10, .int .i64 (k : Int))] _
    refine JC.seq ?_
    refine JC.seq ?_
    refine JC.region ?_
    refine JL.val rfl (Run.move (.tmp (.there rfl (.there rfl (.there rfl (.there rfl (.there rfl (.there rfl .here)))))))) ?_
    refine JL.val rfl (Run.move (.tmp (.there rfl (.there rfl (.there rfl (.there rfl (.there rfl .here))))))) ?_
    refine JL.val rfl (Run.len @Try.underlying53 (.tmp .here)) ?_
    refine JL.val rfl (Run.lss (.tmp (.there rfl (.there rfl .here))) (.tmp .here)) ?_
    refine JL.nil ?_
    refine JE.seq ?_
    refine JC.cond (.tmp .here) (fun hkl => ?_) (fun hkl => ?_)
    · have hkl := of_decide_eq_true hkl
      refine JC.skip ?_
      refine JE.seq ?_
      refine JC.seq ?_
      refine JC.block ?_
      refine JC.seq ?_
      refine JC.region ?_
      refine JL.val rfl (Run.move (.tmp (.there rfl (.there rfl (.there rfl (.there rfl (.there rfl (.there rfl (.there rfl (.there rfl .here)))))))))) ?_
      refine JL.val rfl (Run.move (.tmp (.there rfl (.there rfl (.there rfl (.there rfl (.there rfl (.there rfl (.there rfl (.there rfl (.there rfl (.there rfl (.there rfl .here))))))))))))) ?_
      refine JL.val rfl (Run.move (.tmp (.there rfl (.there rfl (.there rfl (.there rfl (.there rfl (.there rfl (.there rfl (.there rfl (.there rfl (.there rfl (.there rfl (.there rfl .here)))))))))))))) ?_
      refine JL.sliceS (L := 0) (H := k) (M := k) rfl @Try.underlying53 (@Try.sizeOf5 _) (.tmp (.there rfl (.there rfl .here))) (fun a ha => by simp only [Option.map, (show Ev _ _ _ from (.tmp (.there rfl .here))).eq ha, (show Ev _ _ _ from (.tmp .here)).eq ha]; exact bounds_hm (by rfl) (by rfl) (by omega) (by omega)) (by omega) ?_
      intro o1 ho1
      have hs3 : SlB w31 (.slice (some ⟨lb, o1, none⟩) (k - 0) (k - 0)) ((layB M nn).take k) := by
        refine SlB.ofBs ?_ (by simp; omega) (by omega) (by omega)
        rcases Nat.eq_zero_or_pos k with hk0 | hk0
        · subst hk0; exact Bs.nil _ _ _
        · rw [ho1 hk0]; exact (Bs.ofOwns hO1).take
      refine JL.call rfl (Run.call @Try.call21 (.cons (.tmp .here) .nil)) (read_is hs3 (readF_cut (by omega) (by omega) hn0 hn1 (by omega))) ?_
      rintro e w34 ⟨rfl, hc6⟩
      refine JRet.ret ?_
      replace Bb1 := Bb1.no hc6
      replace hO1 := hO1.no hc6
      replace htv := htv.no hc6
      replace hK := hK.no hc6
      have hY : Ch No w34 w34 := Ch.refl _
      have szhY := hK.size
      refine JL.val rfl (Run.move (.tmp .here)) ?_
      refine JL.val rfl (Run.extract (.tmp .here) (by rfl)) ?_
      refine JL.val rfl (Run.extract (.tmp (.there rfl .here)) (by rfl)) ?_
      refine JL.alloc rfl (@Try.zeroValue66 _) ?_
      intro b35 w36 hg37 hc38 Bb35
      have gehY_b35 : w34.heap.size ≤ b35 := Nat.le_trans hY.size hg37
      have ge_b35 : _ ≤ b35 := Nat.le_trans hK.size hg37
      replace hY := hY.no hc38
      replace hK := hK.no hc38
      refine JL.storeA (@Try.sizeOf66 _) (.tmp .here) (.tmp (.there rfl (.there rfl .here))) (by rfl) (by rfl) Bb35 rfl ?_
      intro w39 hc40 hb41
      replace hY := hY.own hc40 (by omega)
      replace hK := hK.own hc40 ge_b35
      replace Bb35 := hb41; clear hb41
      refine JL.val rfl (Run.assign (.tmp (.there rfl .here))) ?_
      refine JL.nil ?_
      refine JE.seq ?_
      refine JC.seq ?_
      refine JC.region ?_
      refine JL.val rfl (Run.move (.tmp .here)) ?_
      refine JL.call rfl (Run.call @Try.call22 (.cons (.tmp .here) .nil)) (num_any _ _) ?_
      rintro e w39 ⟨rfl, rfl⟩
      refine JRet.ret ?_
      refine JL.val rfl (Run.neq (.tmp .here) .const) ?_
      refine JL.nil ?_
      refine JE.seq ?_
      refine JC.condF (.tmp .here) (by decide) ?_
      replace Bb1 := Bb1.no hY
      replace hO1 := hO1.no hY
      replace htv := htv.no hY
      refine JC.skip ?_
      refine JE.blk ?_
      refine JE.seq ?_
      refine JC.region ?_
      refine JL.val rfl (Run.move (.tmp (.there rfl (.there rfl (.there rfl (.there rfl (.there rfl (.there rfl (.there rfl (.there rfl (.there rfl (.there rfl (.there rfl (.there rfl (.there rfl (.there rfl (.there rfl (.there rfl (.there rfl (.there rfl (.there rfl (.there rfl (.there rfl (.there rfl (.there rfl .here))))))))))))))))))))))))) ?_
      refine JL.val rfl (Run.add (.tmp .here) .const (wrap_i64 (by omega))) ?_
      refine JL.val rfl (Run.assign (.tmp .here)) ?_
      refine JL.nil ?_
      exact JE.again (k + 1) (.cons (.there rfl (.there rfl (.there rfl (.there rfl (.there rfl (.there rfl (.there rfl (.there rfl (.there rfl (.there rfl (.there rfl (.there rfl (.there rfl (.there rfl (.there rfl (.there rfl (.there rfl (.there rfl (.there rfl (.there rfl .here)))))))))))))))))))) (.cons (.there rfl (.there rfl (.there rfl (.there rfl (.there rfl (.there rfl (.there rfl (.there rfl (.there rfl (.there rfl (.there rfl (.there rfl (.there rfl (.there rfl (.there rfl (.there rfl (.there rfl (.there rfl (.there rfl (.there rfl (.there rfl .here))))))))))))))))))))) (.cons (.there rfl (.there rfl (.there rfl (.there rfl (.there rfl (.there rfl (.there rfl (.there rfl (.there rfl (.there rfl (.there rfl (.there rfl (.there rfl (.there rfl (.there rfl (.there rfl (.there rfl (.there rfl (.there rfl (.there rfl (.there rfl (.there rfl .here)))))))))))))))))))))) (.cons (.there rfl (.there rfl (.there rfl (.there rfl (.there rfl (.there rfl (.there rfl (.there rfl (.there rfl (.there rfl (.there rfl (.there rfl (.there rfl (.there rfl (.there rfl (.there rfl (.there rfl (.there rfl (.there rfl (.there rfl (.there rfl (.there rfl (.there rfl .here))))))))))))))))))))))) (.cons (.there rfl (.there rfl (.there rfl (.there rfl (.there rfl (.there rfl (.there rfl (.there rfl (.there rfl (.there rfl (.there rfl (.there rfl (.there rfl (.there rfl (.there rfl (.there rfl (.there rfl (.there rfl (.there rfl (.there rfl (.there rfl (.there rfl (.there rfl (.there rfl .here)))))))))))))))))))))))) (.cons (.there rfl (.there rfl (.there rfl (.there rfl (.there rfl (.there rfl (.there rfl (.there rfl (.there rfl (.there rfl (.there rfl (.there rfl (.there rfl (.there rfl (.there rfl (.there rfl (.there rfl (.there rfl (.there rfl (.there rfl (.there rfl (.there rfl (.there rfl (.there rfl (.there rfl .here))))))))))))))))))))))))) (.conse .here (rfl) .nil))))))) (⟨by omega, Bb1, hO1, htv, hK⟩) (by simp only [hmu33]; omega)
    · have hkl := of_decide_eq_false hkl
      refine JC.exit ?_
      refine JE.exit_seq ?_
      refine JE.exit_seq ?_
      refine JE.exit_here ?_
      refine JE.seq ?_
      refine JC.seq ?_
      refine JC.region ?_
      refine JL.val rfl (Run.move (.tmp (.there rfl (.there rfl (.there rfl (.there rfl (.there rfl (.there rfl .here)))))))) ?_
      refine JL.val rfl (Run.move (.tmp (.there rfl (.there rfl (.there rfl (.there rfl (.there rfl (.there rfl (.there rfl (.there rfl .here)))))))))) ?_
      refine JL.val rfl (Run.move (.tmp (.there rfl (.there rfl (.there rfl (.there rfl (.there rfl (.there rfl (.there rfl (.there rfl (.there rfl (.there rfl .here)))))))))))) ?_
      refine JL.val rfl (Run.len @Try.underlying53 (.tmp .here)) ?_
      refine JL.val rfl (Run.move (.tmp (.there rfl (.there rfl (.there rfl (.there rfl (.there rfl (.there rfl (.there rfl (.there rfl (.there rfl (.there rfl (.there rfl (.there rfl (.there rfl .here))))))))))))))) ?_
      rw [show (((layB M nn).length : Nat) : Int) = sizeI nn from by have := lay_size hn0 hn1 M; rw [← layB_len] at this; exact this]
      refine JL.call rfl (Run.call @Try.call23 (.cons (.tmp (.there rfl (.there rfl (.there rfl (.there rfl .here))))) (.cons (.tmp (.there rfl (.there rfl (.there rfl .here)))) (.cons (.tmp (.there rfl .here)) (.cons (.tmp .here) .nil))))) (longer_any M nn (by omega) (by omega) hn0 hn1 _ htv htl) ?_
      rintro e w42 ⟨rfl, hc7⟩
      refine JRet.ret ?_
      replace Bb1 := Bb1.no hc7
      replace hO1 := hO1.no hc7
      replace htv := htv.no hc7
      replace hK := hK.no hc7
      refine JL.val rfl (Run.not (.tmp .here)) ?_
      refine JL.nil ?_
      refine JE.seq ?_
      refine JC.condF (.tmp .here) (rfl) ?_
      refine JC.skip ?_
      refine JE.blk ?_
      refine JE.seq ?_
      refine JC.region ?_
      refine JL.val rfl (Run.move (.tmp (.there rfl (.there rfl (.there rfl (.there rfl (.there rfl (.there rfl (.there rfl (.there rfl (.there rfl (.there rfl (.there rfl (.there rfl .here)))))))))))))) ?_
      refine JL.val rfl (Run.add (.tmp .here) .const (wrap_i64 (by omega))) ?_
      refine JL.val rfl (Run.assign (.tmp .here)) ?_
      refine JL.nil ?_
      exact JE.again (i + 1) (.cons (.there rfl (.there rfl (.there rfl (.there rfl (.there rfl (.there rfl (.there rfl (.there rfl (.there rfl (.there rfl (.there rfl (.there rfl (.there rfl (.there rfl .here)))))))))))))) (.conse .here (rfl) .nil)) (⟨by omega, Bb1, hK⟩) (by simp only [hmu7]; omega)
  · have hlt := of_decide_eq_false hlt
    refine JC.exit ?_
    refine JE.exit_seq ?_
    refine JE.exit_seq ?_
    refine JE.exit_here ?_
    refine JE.seq ?_
    refine JC.seq ?_
    refine JC.region ?_
    refine JL.call rfl (Run.call @Try.call17 .nil) (lays_any _) ?_
    rintro e w8 ⟨rfl, hc1⟩
    refine JRet.ret ?_
    replace Bb1 := Bb1.no hc1
    replace hK := hK.no hc1
    refine JL.val rfl (Run.assign (.tmp .here)) ?_
    refine JL.nil ?_
    refine JE.keep (L := _) (.cons .here .nil) ?_
    refine JE.seq ?_
    refine JC.ret ?_
    refine JE.ret1 @Try.results4 .here ?_
    exact ⟨rfl, hK⟩

end Go.Proofs.Ytggngmmbpkoooaa.Hd
