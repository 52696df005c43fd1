/- Contracts of the functions of package head, for every input. -/
import Derived.Test.YtggngmmbpkoooaaEngP
namespace Go.Proofs.Ytggngmmbpkoooaa.Hd
open Go Go.Proofs.Ytggngmmbpkoooaa.Eng Go.RowKit
set_option linter.unusedVariables false
set_option linter.unusedSimpArgs false
set_option maxRecDepth 4000

def infoI (n : Int) : Int := if n < 24 then n else if n < 256 then 24 else if n < 65536 then 25 else if n < 4294967296 then 26 else 27
def behindI (i : Int) : Int := if i < 24 ∨ 27 < i then 0 else if i = 24 then 1 else if i = 25 then 2 else if i = 26 then 4 else 8
def sizeI (n : Int) : Int := 1 + behindI (infoI n)
theorem behind_shl {i : Int} (h : ¬ i < 24) (h' : ¬ 27 < i) : IntKind.i64.wrap (1 * (2 : Int) ^ (min (i - 24).toNat IntKind.i64.bits)) = behindI i := by
  have hi : i = 24 ∨ i = 25 ∨ i = 26 ∨ i = 27 := by omega
  rcases hi with rfl | rfl | rfl | rfl <;> decide
theorem behind_bd (i : Int) : 0 ≤ behindI i ∧ behindI i ≤ 8 := by unfold behindI; repeat' split <;> omega

set_option maxHeartbeats 2000000 in
theorem info_any (n : Int) (h0 : 0 ≤ n) (w : World) :
    Calls Try.prog 24 #[.int .u64 n] w fun e w' => e = .returned (.int .i64 (infoI n)) ∧ w' = w := by
  refine calls @Try.func24 rfl @Try.ntmps24 rfl ?_
  show JC _ _ _ _ _ [(0, .int .u64 n)] _
  refine JC.seq ?_
  refine JC.region ?_
  refine JL.val rfl (Run.assign .const) ?_
  refine JL.nil ?_
  refine JE.seq ?_
  refine JC.seq ?_
  refine JC.block ?_
  refine JC.seq ?_
  refine JC.region ?_
  refine JL.val rfl (Run.move (.tmp (.there rfl .here))) ?_
  refine JL.val rfl (Run.lss (.tmp .here) .const) ?_
  refine JL.val rfl (Run.assign (.tmp .here)) ?_
  refine JL.nil ?_
  refine JE.seq ?_
  refine JC.cond (.tmp .here) (fun h0 => ?_) (fun h0 => ?_)
  · have h0 := of_decide_eq_true h0
    refine JC.seq ?_
    refine JC.region ?_
    refine JL.val rfl (Run.move (.tmp (.there rfl (.there rfl (.there rfl (.there rfl .here)))))) ?_
    refine JL.val rfl (Run.conv @Try.underlying50 @Try.underlying3 (.tmp .here) (wrap_i64 (by omega))) ?_
    refine JL.val rfl (Run.assign (.tmp .here)) ?_
    refine JL.nil ?_
    refine JE.keep (L := _) (.cons .here .nil) ?_
    refine JE.seq ?_
    refine JC.ret ?_
    refine JE.ret_blk ?_
    refine JE.ret_seq ?_
    refine JE.ret1 @Try.results24 .here ?_
    exact ⟨ret_int (by unfold infoI; (repeat (first | rw [if_pos (by omega)] | rw [if_neg (by omega)]))), rfl⟩
  · have h0 := of_decide_eq_false h0
    refine JC.seq ?_
    refine JC.region ?_
    refine JL.val rfl (Run.move (.tmp (.there rfl (.there rfl (.there rfl (.there rfl .here)))))) ?_
    refine JL.val rfl (Run.lss (.tmp .here) .const) ?_
    refine JL.val rfl (Run.assign (.tmp .here)) ?_
    refine JL.nil ?_
    refine JE.seq ?_
    refine JC.cond (.tmp .here) (fun h1 => ?_) (fun h1 => ?_)
    · have h1 := of_decide_eq_true h1
      refine JC.seq ?_
      refine JC.region ?_
      refine JL.val rfl (Run.assign .const) ?_
      refine JL.nil ?_
      refine JE.keep (L := _) (.cons .here .nil) ?_
      refine JE.seq ?_
      refine JC.ret ?_
      refine JE.ret_blk ?_
      refine JE.ret_seq ?_
      refine JE.ret1 @Try.results24 .here ?_
      exact ⟨ret_int (by unfold infoI; (repeat (first | rw [if_pos (by omega)] | rw [if_neg (by omega)]))), rfl⟩
    · have h1 := of_decide_eq_false h1
      refine JC.seq ?_
      refine JC.region ?_
      refine JL.val rfl (Run.move (.tmp (.there rfl (.there rfl (.there rfl (.there rfl (.there rfl (.there rfl (.there rfl .here))))))))) ?_
      refine JL.val rfl (Run.lss (.tmp .here) .const) ?_
      refine JL.val rfl (Run.assign (.tmp .here)) ?_
      refine JL.nil ?_
      refine JE.keep (L := _) (.cons .here (.cons (.there rfl (.there rfl (.there rfl (.there rfl (.there rfl (.there rfl (.there rfl (.there rfl (.there rfl .here))))))))) (.cons (.there rfl (.there rfl (.there rfl (.there rfl (.there rfl (.there rfl (.there rfl (.there rfl (.there rfl (.there rfl .here)))))))))) .nil))) ?_
      refine JE.seq ?_
      refine JC.cond (.tmp .here) (fun h2 => ?_) (fun h2 => ?_)
      · have h2 := of_decide_eq_true h2
        refine JC.seq ?_
        refine JC.region ?_
        refine JL.val rfl (Run.assign .const) ?_
        refine JL.nil ?_
        refine JE.seq ?_
        refine JC.ret ?_
        refine JE.ret_blk ?_
        refine JE.ret_seq ?_
        refine JE.ret1 @Try.results24 .here ?_
        exact ⟨ret_int (by unfold infoI; (repeat (first | rw [if_pos (by omega)] | rw [if_neg (by omega)]))), rfl⟩
      · have h2 := of_decide_eq_false h2
        refine JC.seq ?_
        refine JC.region ?_
        refine JL.val rfl (Run.move (.tmp (.there rfl (.there rfl .here)))) ?_
        refine JL.val rfl (Run.lss (.tmp .here) .const) ?_
        refine JL.val rfl (Run.assign (.tmp .here)) ?_
        refine JL.nil ?_
        refine JE.seq ?_
        refine JC.cond (.tmp .here) (fun h3 => ?_) (fun h3 => ?_)
        · have h3 := of_decide_eq_true h3
          refine JC.seq ?_
          refine JC.region ?_
          refine JL.val rfl (Run.assign .const) ?_
          refine JL.nil ?_
          refine JE.seq ?_
          refine JC.ret ?_
          refine JE.ret_blk ?_
          refine JE.ret_seq ?_
          refine JE.ret1 @Try.results24 .here ?_
          exact ⟨ret_int (by unfold infoI; (repeat (first | rw [if_pos (by omega)] | rw [if_neg (by omega)]))), rfl⟩
        · have h3 := of_decide_eq_false h3
          refine JC.skip ?_
          refine JE.blk ?_
          refine JE.seq ?_
          refine JC.seq ?_
          refine JC.region ?_
          refine JL.val rfl (Run.assign .const) ?_
          refine JL.nil ?_
          refine JE.seq ?_
          refine JC.ret ?_
          refine JE.ret1 @Try.results24 .here ?_
          exact ⟨ret_int (by unfold infoI; (repeat (first | rw [if_pos (by omega)] | rw [if_neg (by omega)]))), rfl⟩

set_option maxHeartbeats 2000000 in
theorem behind_any (i : Int) (w : World) :
    Calls Try.prog 26 #[.int .i64 i] w fun e w' => e = .returned (.int .i64 (behindI i)) ∧ w' = w := by
  refine calls @Try.func26 rfl @Try.ntmps26 rfl ?_
  show JC _ _ _ _ _ [(0, .int .i64 i)] _
  refine JC.seq ?_
  refine JC.region ?_
  refine JL.val rfl (Run.assign .const) ?_
  refine JL.nil ?_
  refine JE.seq ?_
  refine JC.seq ?_
  refine JC.seq ?_
  refine JC.region ?_
  refine JL.val rfl (Run.move (.tmp (.there rfl .here))) ?_
  refine JL.val rfl (Run.lss (.tmp .here) .const) ?_
  refine JL.val rfl (Run.move (.tmp .here)) ?_
  refine JL.gsplit (dj := 5) (want := false) .here (fun hgB => ?_) (fun hgB => ?_)
  · have h2 := of_decide_eq_false hgB
    refine JL.gyesb (oj := _) (by rfl) (by rfl) .here hgB ?_
    refine JL.val rfl (Run.move (.tmp (.there rfl (.there rfl (.there rfl (.there rfl .here)))))) ?_
    refine JL.gyesb (oj := _) (by rfl) (by rfl) (.there rfl .here) hgB ?_
    refine JL.val rfl (Run.gtr (.tmp .here) .const) ?_
    refine JL.val rfl (Run.pickF (.tmp (.there rfl (.there rfl .here))) hgB (.tmp .here)) ?_
    refine JL.nil ?_
    refine JE.seq ?_
    refine JC.cond (.tmp .here) (fun h => ?_) (fun h => ?_)
    · have h := of_decide_eq_true h
      refine JC.seq ?_
      refine JC.region ?_
      refine JL.val rfl (Run.assign .const) ?_
      refine JL.nil ?_
      refine JE.keep (L := _) (.cons .here (.cons (.there rfl (.there rfl (.there rfl (.there rfl (.there rfl (.there rfl (.there rfl (.there rfl .here)))))))) .nil)) ?_
      refine JE.seq ?_
      refine JC.ret ?_
      refine JE.ret_seq ?_
      refine JE.ret1 @Try.results26 .here ?_
      exact ⟨ret_int (by unfold behindI; rw [if_pos (.inr h)]), rfl⟩
    · have h := of_decide_eq_false h
      refine JC.skip ?_
      refine JE.seq ?_
      refine JC.seq ?_
      refine JC.region ?_
      refine JL.val rfl (Run.move (.tmp (.there rfl (.there rfl (.there rfl (.there rfl (.there rfl (.there rfl (.there rfl .here))))))))) ?_
      refine JL.val rfl (Run.sub (.tmp .here) .const (wrap_i64 (by omega))) ?_
      refine JL.val rfl (Run.shlv .const (.tmp .here) (by omega) (c := behindI i) (behind_shl h2 h)) ?_
      refine JL.val rfl (Run.assign (.tmp .here)) ?_
      refine JL.nil ?_
      refine JE.keep (L := _) (.cons .here .nil) ?_
      refine JE.seq ?_
      refine JC.ret ?_
      refine JE.ret1 @Try.results26 .here ?_
      exact ⟨rfl, rfl⟩
  · have hg1 := of_decide_eq_true hgB
    refine JL.gnob rfl (oj := _) (by rfl) (by rfl) .here hgB ?_
    refine JL.gnob rfl (oj := _) (by rfl) (by rfl) (.there rfl .here) hgB ?_
    refine JL.val rfl (Run.pickT (.tmp (.there rfl (.there rfl .here))) hgB .const) ?_
    refine JL.nil ?_
    refine JE.seq ?_
    refine JC.condT (.tmp .here) (rfl) ?_
    refine JC.seq ?_
    refine JC.region ?_
    refine JL.val rfl (Run.assign .const) ?_
    refine JL.nil ?_
    refine JE.keep (L := _) (.cons .here (.cons (.there rfl (.there rfl (.there rfl (.there rfl (.there rfl (.there rfl (.there rfl (.there rfl .here)))))))) .nil)) ?_
    refine JE.seq ?_
    refine JC.ret ?_
    refine JE.ret_seq ?_
    refine JE.ret1 @Try.results26 .here ?_
    exact ⟨ret_int (by unfold behindI; rw [if_pos (.inl hg1)]), rfl⟩

set_option maxHeartbeats 2000000 in
theorem size_any (n : Int) (h0 : 0 ≤ n) (w : World) :
    Calls Try.prog 8 #[.int .u64 n] w fun e w' => e = .returned (.int .i64 (sizeI n)) ∧ w' = w := by
  have hb := behind_bd (infoI n)
  refine calls @Try.func8 rfl @Try.ntmps8 rfl ?_
  show JC _ _ _ _ _ [(0, .int .u64 n)] _
  refine JC.seq ?_
  refine JC.region ?_
  refine JL.val rfl (Run.assign .const) ?_
  refine JL.nil ?_
  refine JE.seq ?_
  refine JC.seq ?_
  refine JC.region ?_
  refine JL.val rfl (Run.move (.tmp (.there rfl .here))) ?_
  refine JL.call rfl (Run.call @Try.call24 (.cons (.tmp .here) .nil)) (info_any n h0 _) ?_
  rintro e w ⟨rfl, rfl⟩
  refine JRet.ret ?_
  refine JL.call rfl (Run.call @Try.call26 (.cons (.tmp .here) .nil)) (behind_any _ _) ?_
  rintro e w ⟨rfl, rfl⟩
  refine JRet.ret ?_
  refine JL.val rfl (Run.add .const (.tmp .here) (wrap_i64 (by omega))) ?_
  refine JL.val rfl (Run.assign (.tmp .here)) ?_
  refine JL.nil ?_
  refine JE.seq ?_
  refine JC.ret ?_
  refine JE.ret1 @Try.results8 .here ?_
  exact ⟨rfl, rfl⟩


def layI (m n : Int) : List Int := (m * 32 + infoI n) :: (if n < 24 then [] else if n < 256 then [n % 256] else if n < 65536 then [n / 256 % 256, n % 256]
  else if n < 4294967296 then [n / 16777216 % 256, n / 65536 % 256, n / 256 % 256, n % 256]
  else [n / 72057594037927936 % 256, n / 281474976710656 % 256, n / 1099511627776 % 256, n / 4294967296 % 256, n / 16777216 % 256, n / 65536 % 256, n / 256 % 256, n % 256])
theorem info_small {n : Int} (h : infoI n < 24 ∨ 27 < infoI n) : n < 24 := by unfold infoI at h; (repeat' split at h) <;> omega
theorem info_27 {n : Int} (h : infoI n = 27) : 4294967296 ≤ n := by unfold infoI at h; (repeat' split at h) <;> omega
theorem info_26 {n : Int} (h : infoI n = 26) : 65536 ≤ n ∧ n < 4294967296 := by unfold infoI at h; (repeat' split at h) <;> omega
theorem info_25 {n : Int} (h : infoI n = 25) : 256 ≤ n ∧ n < 65536 := by unfold infoI at h; (repeat' split at h) <;> omega
theorem info_24 {n : Int} (h : infoI n = 24) : 24 ≤ n ∧ n < 256 := by unfold infoI at h; (repeat' split at h) <;> omega
theorem info_bd {n : Int} (h : 0 ≤ n) : 0 ≤ infoI n ∧ infoI n ≤ 27 := by unfold infoI; repeat' split <;> omega
theorem run_mk9 (w : World) : (Instr.makeSlice 53 (.int .i64 0) (.int .i64 9)).run Try.prog w = .ok (.slice (some ⟨w.heap.size, 0, none⟩) 0 9) (w.alloc (.cells (List.replicate 9 (.int .u8 0)).toArray 5)) := by kernel_rfl
def u8s (l : List Int) : List Value := l.map (Value.int .u8)
def LayOut (w : World) (m n : Int) (e : Ending) (w' : World) : Prop := ∃ v, e = .returned v ∧ Owns w' w.heap.size 5 1 v (layI m n).length (u8s (layI m n)) ∧ Ch No w w'
theorem lay_close {w w' : World} {m n : Int} {v : Value} {k : Nat} {xs : List Value} (hO : Owns w' w.heap.size 5 1 v k xs) (hK : Ch No w w') (h : xs = u8s (layI m n)) : LayOut w m n (.returned v) w' := by
  subst h
  have : k = (layI m n).length := by have := hO.1; simp [u8s] at this; omega
  subst this
  exact ⟨v, rfl, hO, hK⟩

set_option maxHeartbeats 2000000 in
theorem lay_any (m n : Int) (m0 : 0 ≤ m) (m7 : m ≤ 7) (h0 : 0 ≤ n) (w : World) :
    Calls Try.prog 6 #[.int .i64 m, .int .u64 n] w fun e w' => LayOut w m n e w' := by
  have hK : Ch No w w := Ch.refl w
  have hb := info_bd h0
  obtain ⟨hb1, hb2⟩ := hb
  refine calls @Try.func6 rfl @Try.ntmps6 rfl ?_
  show JC _ _ _ _ _ [(0, .int .i64 m), (1, .int .u64 n)] _
  refine JC.seq ?_
  refine JC.region ?_
  refine JL.val rfl (Run.assign .const) ?_
  refine JL.nil ?_
  refine JE.seq ?_
  refine JC.seq ?_
  refine JC.seq ?_
  refine JC.region ?_
  refine JL.val rfl (Run.move (.tmp (.there rfl .here))) ?_
  refine JL.val rfl (Run.lss (.tmp .here) .const) ?_
  refine JL.val rfl (Run.move (.tmp .here)) ?_
  refine JL.gyesb (oj := _) (by rfl) (by rfl) .here (decide_eq_false (by omega)) ?_
  refine JL.val rfl (Run.move (.tmp (.there rfl (.there rfl (.there rfl (.there rfl .here)))))) ?_
  refine JL.gyesb (oj := _) (by rfl) (by rfl) (.there rfl .here) (decide_eq_false (by omega)) ?_
  refine JL.val rfl (Run.gtr (.tmp .here) .const) ?_
  refine JL.val rfl (Run.pickF (.tmp (.there rfl (.there rfl .here))) (decide_eq_false (by omega)) (.tmp .here)) ?_
  refine JL.nil ?_
  refine JE.seq ?_
  refine JC.condF (.tmp .here) (by simp; omega) ?_
  refine JC.skip ?_
  refine JE.seq ?_
  refine JC.seq ?_
  refine JC.region ?_
  refine JL.val rfl (Run.move (.tmp (.there rfl (.there rfl (.there rfl (.there rfl (.there rfl (.there rfl (.there rfl (.there rfl .here)))))))))) ?_
  refine JL.call rfl (Run.call @Try.call24 (.cons (.tmp .here) .nil)) (info_any n h0 _) ?_
  rintro e w ⟨rfl, rfl⟩
  refine JRet.ret ?_
  refine JL.val rfl (Run.assign (.tmp .here)) ?_
  refine JL.nil ?_
  refine JE.keep (L := _) (.cons .here (.cons (.there rfl (.there rfl (.there rfl (.there rfl (.there rfl (.there rfl (.there rfl (.there rfl (.there rfl .here))))))))) (.cons (.there rfl (.there rfl (.there rfl (.there rfl (.there rfl (.there rfl (.there rfl (.there rfl (.there rfl (.there rfl .here)))))))))) (.cons (.there rfl (.there rfl (.there rfl (.there rfl (.there rfl (.there rfl (.there rfl (.there rfl (.there rfl (.there rfl (.there rfl .here))))))))))) .nil)))) ?_
  refine JE.seq ?_
  refine JC.seq ?_
  refine JC.region ?_
  refine JL.mk rfl .const .const (run_mk9 _) ?_
  intro b1 w2 hg3 hc4 Bb1
  have ge_b1 : _ ≤ b1 := Nat.le_trans hK.size hg3
  replace hK := hK.no hc4
  have hO : Owns _ w.heap.size 5 1 (.slice (some ⟨b1, 0, none⟩) 0 9) 0 [] := Owns.ofBlk (cs := List.replicate 9 (.int .u8 0)) Bb1 ge_b1 (by rfl) (by omega) (by omega)
  refine JL.val rfl (Run.assign (.tmp .here)) ?_
  refine JL.nil ?_
  refine JE.seq ?_
  refine JC.seq ?_
  refine JC.region ?_
  refine JL.val rfl (Run.move (.tmp .here)) ?_
  refine JL.val rfl (Run.move (.tmp (.there rfl (.there rfl (.there rfl (.there rfl (.there rfl .here))))))) ?_
  refine JL.val rfl (Run.shl (m := 32) (.tmp .here) .const (by decide) (by decide) (wrap_i64 (by omega))) ?_
  refine JL.val rfl (Run.move (.tmp (.there rfl (.there rfl (.there rfl (.there rfl (.there rfl .here))))))) ?_
  refine JL.val rfl (Run.bitop (.tmp (.there rfl .here)) (.tmp .here) (by simp) (or_i64 5 (by omega) (by omega) (by omega) (by omega) (by omega) (by omega))) ?_
  refine JL.val rfl (Run.conv @Try.underlying3 @Try.underlying5 (.tmp .here) ((IntKind.wrap_u8 _).trans (Int.emod_eq_of_lt (by omega) (by omega)))) ?_
  refine JL.lit (os := [.tmp 21]) rfl @Try.underlying53 (@Try.sizeOf5 _) (@Try.zeroValue5 _) (by rfl) (by rfl) rfl rfl (by rfl) (.cons (.tmp .here) .nil) (by simp [Value.cells]) ?_
  intro b5 w6 hg7 hc8 Bb5
  have ge_b5 : _ ≤ b5 := Nat.le_trans hK.size hg7
  replace hO := hO.no hc8
  replace hK := hK.no hc8
  refine JL.append1 rfl @Try.underlying53 @Try.underlying53 info_u8 (by rfl) (by decide) (.tmp (.there rfl (.there rfl (.there rfl (.there rfl (.there rfl (.there rfl .here))))))) hO (.tmp .here) Bb5 (by rfl) (by rfl) (hK.size) (by decide) ?_
  intro v9 w10 hO12 hc11
  replace hK := hK.ownv hO hc11 (by omega)
  clear Bb5
  replace hO := hO12; clear hO12
  refine JL.val rfl (Run.assign (.tmp .here)) ?_
  refine JL.nil ?_
  refine JE.keep (L := _) (.cons .here (.cons (.there rfl (.there rfl (.there rfl (.there rfl (.there rfl (.there rfl (.there rfl (.there rfl (.there rfl (.there rfl (.there rfl .here))))))))))) (.cons (.there rfl (.there rfl (.there rfl (.there rfl (.there rfl (.there rfl (.there rfl (.there rfl (.there rfl (.there rfl (.there rfl (.there rfl .here)))))))))))) (.cons (.there rfl (.there rfl (.there rfl (.there rfl (.there rfl (.there rfl (.there rfl (.there rfl (.there rfl (.there rfl (.there rfl (.there rfl (.there rfl (.there rfl .here)))))))))))))) .nil)))) ?_
  refine JE.seq ?_
  refine JC.seq ?_
  refine JC.seq ?_
  refine JC.region ?_
  refine JL.val rfl (Run.move (.tmp (.there rfl .here))) ?_
  refine JL.nil ?_
  refine JE.seq ?_
  refine JC.block ?_
  refine JC.seq ?_
  refine JC.block ?_
  refine JC.seq ?_
  refine JC.block ?_
  refine JC.seq ?_
  refine JC.block ?_
  refine JC.seq ?_
  refine JC.block ?_
  refine JC.seq ?_
  refine JC.seq ?_
  refine JC.seq ?_
  refine JC.region ?_
  refine JL.val rfl (Run.eql (.tmp .here) .const) ?_
  refine JL.val rfl (Run.assign (.tmp .here)) ?_
  refine JL.nil ?_
  refine JE.seq ?_
  refine JC.cond (.tmp .here) (fun h => ?_) (fun h => ?_)
  · have h := eq_of_beq h
    have hr := info_27 h
    refine JC.exit ?_
    refine JE.exit_seq ?_
    refine JE.exit_seq ?_
    refine JE.exit_here ?_
    refine JE.seq ?_
    refine JC.region ?_
    refine JL.val rfl (Run.move (.tmp (.there rfl (.there rfl (.there rfl .here))))) ?_
    refine JL.val rfl (Run.move (.tmp (.there rfl (.there rfl (.there rfl (.there rfl (.there rfl (.there rfl (.there rfl .here))))))))) ?_
    refine JL.val rfl (Run.shr (m := 72057594037927936) (.tmp .here) .const (by decide) (by decide)) ?_
    refine JL.val rfl (Run.conv @Try.underlying50 @Try.underlying5 (.tmp .here) (wrap_u8m _)) ?_
    refine JL.val rfl (Run.move (.tmp (.there rfl (.there rfl (.there rfl (.there rfl (.there rfl (.there rfl (.there rfl (.there rfl (.there rfl (.there rfl .here)))))))))))) ?_
    refine JL.val rfl (Run.shr (m := 281474976710656) (.tmp .here) .const (by decide) (by decide)) ?_
    refine JL.val rfl (Run.conv @Try.underlying50 @Try.underlying5 (.tmp .here) (wrap_u8m _)) ?_
    refine JL.val rfl (Run.move (.tmp (.there rfl (.there rfl (.there rfl (.there rfl (.there rfl (.there rfl (.there rfl (.there rfl (.there rfl (.there rfl (.there rfl (.there rfl (.there rfl .here))))))))))))))) ?_
    refine JL.val rfl (Run.shr (m := 1099511627776) (.tmp .here) .const (by decide) (by decide)) ?_
    refine JL.val rfl (Run.conv @Try.underlying50 @Try.underlying5 (.tmp .here) (wrap_u8m _)) ?_
    refine JL.val rfl (Run.move (.tmp (.there rfl (.there rfl (.there rfl (.there rfl (.there rfl (.there rfl (.there rfl (.there rfl (.there rfl (.there rfl (.there rfl (.there rfl (.there rfl (.there rfl (.there rfl (.there rfl .here)))))))))))))))))) ?_
    refine JL.val rfl (Run.shr (m := 4294967296) (.tmp .here) .const (by decide) (by decide)) ?_
    refine JL.val rfl (Run.conv @Try.underlying50 @Try.underlying5 (.tmp .here) (wrap_u8m _)) ?_
    refine JL.lit (os := [.tmp 36, .tmp 39, .tmp 42, .tmp 45]) rfl @Try.underlying53 (@Try.sizeOf5 _) (@Try.zeroValue5 _) (by rfl) (by rfl) rfl rfl (by rfl) (.cons (.tmp (.there rfl (.there rfl (.there rfl (.there rfl (.there rfl (.there rfl (.there rfl (.there rfl (.there rfl .here)))))))))) (.cons (.tmp (.there rfl (.there rfl (.there rfl (.there rfl (.there rfl (.there rfl .here))))))) (.cons (.tmp (.there rfl (.there rfl (.there rfl .here)))) (.cons (.tmp .here) .nil)))) (by simp [Value.cells]) ?_
    intro b13 w14 hg15 hc16 Bb13
    have ge_b13 : _ ≤ b13 := Nat.le_trans hK.size hg15
    replace hO := hO.no hc16
    replace hK := hK.no hc16
    refine JL.append1 rfl @Try.underlying53 @Try.underlying53 info_u8 (by rfl) (by decide) (.tmp (.there rfl (.there rfl (.there rfl (.there rfl (.there rfl (.there rfl (.there rfl (.there rfl (.there rfl (.there rfl (.there rfl (.there rfl (.there rfl .here)))))))))))))) hO (.tmp .here) Bb13 (by rfl) (by rfl) (hK.size) (by decide) ?_
    intro v17 w18 hO20 hc19
    replace hK := hK.ownv hO hc19 (by omega)
    clear Bb13
    replace hO := hO20; clear hO20
    refine JL.val rfl (Run.assign (.tmp .here)) ?_
    refine JL.nil ?_
    refine JE.keep (L := _) (.cons .here (.cons (.there rfl (.there rfl (.there rfl (.there rfl (.there rfl (.there rfl (.there rfl (.there rfl (.there rfl (.there rfl (.there rfl (.there rfl (.there rfl (.there rfl (.there rfl (.there rfl (.there rfl (.there rfl (.there rfl (.there rfl (.there rfl .here))))))))))))))))))))) (.cons (.there rfl (.there rfl (.there rfl (.there rfl (.there rfl (.there rfl (.there rfl (.there rfl (.there rfl (.there rfl (.there rfl (.there rfl (.there rfl (.there rfl (.there rfl (.there rfl (.there rfl (.there rfl (.there rfl (.there rfl (.there rfl (.there rfl .here)))))))))))))))))))))) .nil))) ?_
    refine JE.blk ?_
    refine JE.seq ?_
    refine JC.region ?_
    refine JL.val rfl (Run.move (.tmp .here)) ?_
    refine JL.val rfl (Run.move (.tmp (.there rfl (.there rfl (.there rfl .here))))) ?_
    refine JL.val rfl (Run.shr (m := 16777216) (.tmp .here) .const (by decide) (by decide)) ?_
    refine JL.val rfl (Run.conv @Try.underlying50 @Try.underlying5 (.tmp .here) (wrap_u8m _)) ?_
    refine JL.val rfl (Run.move (.tmp (.there rfl (.there rfl (.there rfl (.there rfl (.there rfl (.there rfl .here)))))))) ?_
    refine JL.val rfl (Run.shr (m := 65536) (.tmp .here) .const (by decide) (by decide)) ?_
    refine JL.val rfl (Run.conv @Try.underlying50 @Try.underlying5 (.tmp .here) (wrap_u8m _)) ?_
    refine JL.lit (os := [.tmp 51, .tmp 54]) rfl @Try.underlying53 (@Try.sizeOf5 _) (@Try.zeroValue5 _) (by rfl) (by rfl) rfl rfl (by rfl) (.cons (.tmp (.there rfl (.there rfl (.there rfl .here)))) (.cons (.tmp .here) .nil)) (by simp [Value.cells]) ?_
    intro b21 w22 hg23 hc24 Bb21
    have ge_b21 : _ ≤ b21 := Nat.le_trans hK.size hg23
    replace hO := hO.no hc24
    replace hK := hK.no hc24
    refine JL.append1 rfl @Try.underlying53 @Try.underlying53 info_u8 (by rfl) (by decide) (.tmp (.there rfl (.there rfl (.there rfl (.there rfl (.there rfl (.there rfl (.there rfl .here)))))))) hO (.tmp .here) Bb21 (by rfl) (by rfl) (hK.size) (by decide) ?_
    intro v25 w26 hO28 hc27
    replace hK := hK.ownv hO hc27 (by omega)
    clear Bb21
    replace hO := hO28; clear hO28
    refine JL.val rfl (Run.assign (.tmp .here)) ?_
    refine JL.nil ?_
    refine JE.keep (L := _) (.cons .here (.cons (.there rfl (.there rfl (.there rfl (.there rfl (.there rfl (.there rfl (.there rfl (.there rfl (.there rfl (.there rfl (.there rfl .here))))))))))) (.cons (.there rfl (.there rfl (.there rfl (.there rfl (.there rfl (.there rfl (.there rfl (.there rfl (.there rfl (.there rfl (.there rfl (.there rfl .here)))))))))))) .nil))) ?_
    refine JE.blk ?_
    refine JE.seq ?_
    refine JC.region ?_
    refine JL.val rfl (Run.move (.tmp .here)) ?_
    refine JL.val rfl (Run.move (.tmp (.there rfl (.there rfl (.there rfl .here))))) ?_
    refine JL.val rfl (Run.shr (m := 256) (.tmp .here) .const (by decide) (by decide)) ?_
    refine JL.val rfl (Run.conv @Try.underlying50 @Try.underlying5 (.tmp .here) (wrap_u8m _)) ?_
    refine JL.lit (os := [.tmp 60]) rfl @Try.underlying53 (@Try.sizeOf5 _) (@Try.zeroValue5 _) (by rfl) (by rfl) rfl rfl (by rfl) (.cons (.tmp .here) .nil) (by simp [Value.cells]) ?_
    intro b29 w30 hg31 hc32 Bb29
    have ge_b29 : _ ≤ b29 := Nat.le_trans hK.size hg31
    replace hO := hO.no hc32
    replace hK := hK.no hc32
    refine JL.append1 rfl @Try.underlying53 @Try.underlying53 info_u8 (by rfl) (by decide) (.tmp (.there rfl (.there rfl (.there rfl (.there rfl .here))))) hO (.tmp .here) Bb29 (by rfl) (by rfl) (hK.size) (by decide) ?_
    intro v33 w34 hO36 hc35
    replace hK := hK.ownv hO hc35 (by omega)
    clear Bb29
    replace hO := hO36; clear hO36
    refine JL.val rfl (Run.assign (.tmp .here)) ?_
    refine JL.nil ?_
    refine JE.keep (L := _) (.cons .here (.cons (.there rfl (.there rfl (.there rfl (.there rfl (.there rfl (.there rfl (.there rfl (.there rfl .here)))))))) (.cons (.there rfl (.there rfl (.there rfl (.there rfl (.there rfl (.there rfl (.there rfl (.there rfl (.there rfl .here))))))))) .nil))) ?_
    refine JE.blk ?_
    refine JE.seq ?_
    refine JC.seq ?_
    refine JC.region ?_
    refine JL.val rfl (Run.move (.tmp .here)) ?_
    refine JL.val rfl (Run.move (.tmp (.there rfl (.there rfl (.there rfl .here))))) ?_
    refine JL.val rfl (Run.conv @Try.underlying50 @Try.underlying5 (.tmp .here) (wrap_u8m _)) ?_
    refine JL.lit (os := [.tmp 65]) rfl @Try.underlying53 (@Try.sizeOf5 _) (@Try.zeroValue5 _) (by rfl) (by rfl) rfl rfl (by rfl) (.cons (.tmp .here) .nil) (by simp [Value.cells]) ?_
    intro b37 w38 hg39 hc40 Bb37
    have ge_b37 : _ ≤ b37 := Nat.le_trans hK.size hg39
    replace hO := hO.no hc40
    replace hK := hK.no hc40
    refine JL.append1 rfl @Try.underlying53 @Try.underlying53 info_u8 (by rfl) (by decide) (.tmp (.there rfl (.there rfl (.there rfl .here)))) hO (.tmp .here) Bb37 (by rfl) (by rfl) (hK.size) (by decide) ?_
    intro v41 w42 hO44 hc43
    replace hK := hK.ownv hO hc43 (by omega)
    clear Bb37
    replace hO := hO44; clear hO44
    refine JL.val rfl (Run.assign (.tmp .here)) ?_
    refine JL.nil ?_
    refine JE.keep (L := _) (.cons .here (.cons (.there rfl (.there rfl (.there rfl (.there rfl (.there rfl (.there rfl (.there rfl .here))))))) .nil)) ?_
    refine JE.seq ?_
    refine JC.exit ?_
    refine JE.exit_here ?_
    refine JE.seq ?_
    refine JC.seq ?_
    refine JC.region ?_
    refine JL.val rfl (Run.move (.tmp .here)) ?_
    refine JL.val rfl (Run.assign (.tmp .here)) ?_
    refine JL.nil ?_
    refine JE.seq ?_
    refine JC.ret ?_
    refine JE.ret1 @Try.results6 .here ?_
    exact lay_close hO hK (by unfold u8s layI; (repeat (first | rw [if_pos (by omega)] | rw [if_neg (by omega)])); rfl)
  · have h := ne_of_beq_false h
    refine JC.skip ?_
    refine JE.seq ?_
    refine JC.seq ?_
    refine JC.seq ?_
    refine JC.region ?_
    refine JL.val rfl (Run.eql (.tmp (.there rfl (.there rfl .here))) .const) ?_
    refine JL.val rfl (Run.assign (.tmp .here)) ?_
    refine JL.nil ?_
    refine JE.seq ?_
    refine JC.cond (.tmp .here) (fun h => ?_) (fun h => ?_)
    · have h := eq_of_beq h
      have hr := info_26 h
      refine JC.exit ?_
      refine JE.exit_seq ?_
      refine JE.exit_seq ?_
      refine JE.exit_past rfl ?_
      refine JE.exit_seq ?_
      refine JE.exit_here ?_
      refine JE.seq ?_
      refine JC.region ?_
      refine JL.val rfl (Run.move (.tmp (.there rfl (.there rfl (.there rfl (.there rfl (.there rfl .here))))))) ?_
      refine JL.val rfl (Run.move (.tmp (.there rfl (.there rfl (.there rfl (.there rfl (.there rfl (.there rfl (.there rfl (.there rfl (.there rfl .here))))))))))) ?_
      refine JL.val rfl (Run.shr (m := 16777216) (.tmp .here) .const (by decide) (by decide)) ?_
      refine JL.val rfl (Run.conv @Try.underlying50 @Try.underlying5 (.tmp .here) (wrap_u8m _)) ?_
      refine JL.val rfl (Run.move (.tmp (.there rfl (.there rfl (.there rfl (.there rfl (.there rfl (.there rfl (.there rfl (.there rfl (.there rfl (.there rfl (.there rfl (.there rfl .here)))))))))))))) ?_
      refine JL.val rfl (Run.shr (m := 65536) (.tmp .here) .const (by decide) (by decide)) ?_
      refine JL.val rfl (Run.conv @Try.underlying50 @Try.underlying5 (.tmp .here) (wrap_u8m _)) ?_
      refine JL.lit (os := [.tmp 51, .tmp 54]) rfl @Try.underlying53 (@Try.sizeOf5 _) (@Try.zeroValue5 _) (by rfl) (by rfl) rfl rfl (by rfl) (.cons (.tmp (.there rfl (.there rfl (.there rfl .here)))) (.cons (.tmp .here) .nil)) (by simp [Value.cells]) ?_
      intro b45 w46 hg47 hc48 Bb45
      have ge_b45 : _ ≤ b45 := Nat.le_trans hK.size hg47
      replace hO := hO.no hc48
      replace hK := hK.no hc48
      refine JL.append1 rfl @Try.underlying53 @Try.underlying53 info_u8 (by rfl) (by decide) (.tmp (.there rfl (.there rfl (.there rfl (.there rfl (.there rfl (.there rfl (.there rfl .here)))))))) hO (.tmp .here) Bb45 (by rfl) (by rfl) (hK.size) (by decide) ?_
      intro v49 w50 hO52 hc51
      replace hK := hK.ownv hO hc51 (by omega)
      clear Bb45
      replace hO := hO52; clear hO52
      refine JL.val rfl (Run.assign (.tmp .here)) ?_
      refine JL.nil ?_
      refine JE.keep (L := _) (.cons .here (.cons (.there rfl (.there rfl (.there rfl (.there rfl (.there rfl (.there rfl (.there rfl (.there rfl (.there rfl (.there rfl (.there rfl (.there rfl (.there rfl (.there rfl (.there rfl (.there rfl (.there rfl .here))))))))))))))))) (.cons (.there rfl (.there rfl (.there rfl (.there rfl (.there rfl (.there rfl (.there rfl (.there rfl (.there rfl (.there rfl (.there rfl (.there rfl (.there rfl (.there rfl (.there rfl (.there rfl (.there rfl (.there rfl .here)))))))))))))))))) .nil))) ?_
      refine JE.blk ?_
      refine JE.seq ?_
      refine JC.region ?_
      refine JL.val rfl (Run.move (.tmp .here)) ?_
      refine JL.val rfl (Run.move (.tmp (.there rfl (.there rfl (.there rfl .here))))) ?_
      refine JL.val rfl (Run.shr (m := 256) (.tmp .here) .const (by decide) (by decide)) ?_
      refine JL.val rfl (Run.conv @Try.underlying50 @Try.underlying5 (.tmp .here) (wrap_u8m _)) ?_
      refine JL.lit (os := [.tmp 60]) rfl @Try.underlying53 (@Try.sizeOf5 _) (@Try.zeroValue5 _) (by rfl) (by rfl) rfl rfl (by rfl) (.cons (.tmp .here) .nil) (by simp [Value.cells]) ?_
      intro b53 w54 hg55 hc56 Bb53
      have ge_b53 : _ ≤ b53 := Nat.le_trans hK.size hg55
      replace hO := hO.no hc56
      replace hK := hK.no hc56
      refine JL.append1 rfl @Try.underlying53 @Try.underlying53 info_u8 (by rfl) (by decide) (.tmp (.there rfl (.there rfl (.there rfl (.there rfl .here))))) hO (.tmp .here) Bb53 (by rfl) (by rfl) (hK.size) (by decide) ?_
      intro v57 w58 hO60 hc59
      replace hK := hK.ownv hO hc59 (by omega)
      clear Bb53
      replace hO := hO60; clear hO60
      refine JL.val rfl (Run.assign (.tmp .here)) ?_
      refine JL.nil ?_
      refine JE.keep (L := _) (.cons .here (.cons (.there rfl (.there rfl (.there rfl (.there rfl (.there rfl (.there rfl (.there rfl (.there rfl .here)))))))) (.cons (.there rfl (.there rfl (.there rfl (.there rfl (.there rfl (.there rfl (.there rfl (.there rfl (.there rfl .here))))))))) .nil))) ?_
      refine JE.blk ?_
      refine JE.seq ?_
      refine JC.seq ?_
      refine JC.region ?_
      refine JL.val rfl (Run.move (.tmp .here)) ?_
      refine JL.val rfl (Run.move (.tmp (.there rfl (.there rfl (.there rfl .here))))) ?_
      refine JL.val rfl (Run.conv @Try.underlying50 @Try.underlying5 (.tmp .here) (wrap_u8m _)) ?_
      refine JL.lit (os := [.tmp 65]) rfl @Try.underlying53 (@Try.sizeOf5 _) (@Try.zeroValue5 _) (by rfl) (by rfl) rfl rfl (by rfl) (.cons (.tmp .here) .nil) (by simp [Value.cells]) ?_
      intro b61 w62 hg63 hc64 Bb61
      have ge_b61 : _ ≤ b61 := Nat.le_trans hK.size hg63
      replace hO := hO.no hc64
      replace hK := hK.no hc64
      refine JL.append1 rfl @Try.underlying53 @Try.underlying53 info_u8 (by rfl) (by decide) (.tmp (.there rfl (.there rfl (.there rfl .here)))) hO (.tmp .here) Bb61 (by rfl) (by rfl) (hK.size) (by decide) ?_
      intro v65 w66 hO68 hc67
      replace hK := hK.ownv hO hc67 (by omega)
      clear Bb61
      replace hO := hO68; clear hO68
      refine JL.val rfl (Run.assign (.tmp .here)) ?_
      refine JL.nil ?_
      refine JE.keep (L := _) (.cons .here (.cons (.there rfl (.there rfl (.there rfl (.there rfl (.there rfl (.there rfl (.there rfl .here))))))) .nil)) ?_
      refine JE.seq ?_
      refine JC.exit ?_
      refine JE.exit_here ?_
      refine JE.seq ?_
      refine JC.seq ?_
      refine JC.region ?_
      refine JL.val rfl (Run.move (.tmp .here)) ?_
      refine JL.val rfl (Run.assign (.tmp .here)) ?_
      refine JL.nil ?_
      refine JE.seq ?_
      refine JC.ret ?_
      refine JE.ret1 @Try.results6 .here ?_
      exact lay_close hO hK (by unfold u8s layI; (repeat (first | rw [if_pos (by omega)] | rw [if_neg (by omega)])); rfl)
    · have h := ne_of_beq_false h
      refine JC.skip ?_
      refine JE.seq ?_
      refine JC.seq ?_
      refine JC.seq ?_
      refine JC.region ?_
      refine JL.val rfl (Run.eql (.tmp (.there rfl (.there rfl (.there rfl (.there rfl .here))))) .const) ?_
      refine JL.val rfl (Run.assign (.tmp .here)) ?_
      refine JL.nil ?_
      refine JE.seq ?_
      refine JC.cond (.tmp .here) (fun h => ?_) (fun h => ?_)
      · have h := eq_of_beq h
        have hr := info_25 h
        refine JC.exit ?_
        refine JE.exit_seq ?_
        refine JE.exit_seq ?_
        refine JE.exit_past rfl ?_
        refine JE.exit_seq ?_
        refine JE.exit_past rfl ?_
        refine JE.exit_seq ?_
        refine JE.exit_here ?_
        refine JE.seq ?_
        refine JC.region ?_
        refine JL.val rfl (Run.move (.tmp (.there rfl (.there rfl (.there rfl (.there rfl (.there rfl (.there rfl (.there rfl .here))))))))) ?_
        refine JL.val rfl (Run.move (.tmp (.there rfl (.there rfl (.there rfl (.there rfl (.there rfl (.there rfl (.there rfl (.there rfl (.there rfl (.there rfl (.there rfl .here))))))))))))) ?_
        refine JL.val rfl (Run.shr (m := 256) (.tmp .here) .const (by decide) (by decide)) ?_
        refine JL.val rfl (Run.conv @Try.underlying50 @Try.underlying5 (.tmp .here) (wrap_u8m _)) ?_
        refine JL.lit (os := [.tmp 60]) rfl @Try.underlying53 (@Try.sizeOf5 _) (@Try.zeroValue5 _) (by rfl) (by rfl) rfl rfl (by rfl) (.cons (.tmp .here) .nil) (by simp [Value.cells]) ?_
        intro b69 w70 hg71 hc72 Bb69
        have ge_b69 : _ ≤ b69 := Nat.le_trans hK.size hg71
        replace hO := hO.no hc72
        replace hK := hK.no hc72
        refine JL.append1 rfl @Try.underlying53 @Try.underlying53 info_u8 (by rfl) (by decide) (.tmp (.there rfl (.there rfl (.there rfl (.there rfl .here))))) hO (.tmp .here) Bb69 (by rfl) (by rfl) (hK.size) (by decide) ?_
        intro v73 w74 hO76 hc75
        replace hK := hK.ownv hO hc75 (by omega)
        clear Bb69
        replace hO := hO76; clear hO76
        refine JL.val rfl (Run.assign (.tmp .here)) ?_
        refine JL.nil ?_
        refine JE.keep (L := _) (.cons .here (.cons (.there rfl (.there rfl (.there rfl (.there rfl (.there rfl (.there rfl (.there rfl (.there rfl (.there rfl (.there rfl (.there rfl (.there rfl (.there rfl (.there rfl (.there rfl (.there rfl .here)))))))))))))))) (.cons (.there rfl (.there rfl (.there rfl (.there rfl (.there rfl (.there rfl (.there rfl (.there rfl (.there rfl (.there rfl (.there rfl (.there rfl (.there rfl (.there rfl (.there rfl (.there rfl (.there rfl .here))))))))))))))))) .nil))) ?_
        refine JE.blk ?_
        refine JE.seq ?_
        refine JC.seq ?_
        refine JC.region ?_
        refine JL.val rfl (Run.move (.tmp .here)) ?_
        refine JL.val rfl (Run.move (.tmp (.there rfl (.there rfl (.there rfl .here))))) ?_
        refine JL.val rfl (Run.conv @Try.underlying50 @Try.underlying5 (.tmp .here) (wrap_u8m _)) ?_
        refine JL.lit (os := [.tmp 65]) rfl @Try.underlying53 (@Try.sizeOf5 _) (@Try.zeroValue5 _) (by rfl) (by rfl) rfl rfl (by rfl) (.cons (.tmp .here) .nil) (by simp [Value.cells]) ?_
        intro b77 w78 hg79 hc80 Bb77
        have ge_b77 : _ ≤ b77 := Nat.le_trans hK.size hg79
        replace hO := hO.no hc80
        replace hK := hK.no hc80
        refine JL.append1 rfl @Try.underlying53 @Try.underlying53 info_u8 (by rfl) (by decide) (.tmp (.there rfl (.there rfl (.there rfl .here)))) hO (.tmp .here) Bb77 (by rfl) (by rfl) (hK.size) (by decide) ?_
        intro v81 w82 hO84 hc83
        replace hK := hK.ownv hO hc83 (by omega)
        clear Bb77
        replace hO := hO84; clear hO84
        refine JL.val rfl (Run.assign (.tmp .here)) ?_
        refine JL.nil ?_
        refine JE.keep (L := _) (.cons .here (.cons (.there rfl (.there rfl (.there rfl (.there rfl (.there rfl (.there rfl (.there rfl .here))))))) .nil)) ?_
        refine JE.seq ?_
        refine JC.exit ?_
        refine JE.exit_here ?_
        refine JE.seq ?_
        refine JC.seq ?_
        refine JC.region ?_
        refine JL.val rfl (Run.move (.tmp .here)) ?_
        refine JL.val rfl (Run.assign (.tmp .here)) ?_
        refine JL.nil ?_
        refine JE.seq ?_
        refine JC.ret ?_
        refine JE.ret1 @Try.results6 .here ?_
        exact lay_close hO hK (by unfold u8s layI; (repeat (first | rw [if_pos (by omega)] | rw [if_neg (by omega)])); rfl)
      · have h := ne_of_beq_false h
        refine JC.skip ?_
        refine JE.seq ?_
        refine JC.seq ?_
        refine JC.region ?_
        refine JL.val rfl (Run.eql (.tmp (.there rfl (.there rfl (.there rfl (.there rfl (.there rfl (.there rfl .here))))))) .const) ?_
        refine JL.val rfl (Run.assign (.tmp .here)) ?_
        refine JL.nil ?_
        refine JE.keep (L := _) (.cons .here (.cons (.there rfl (.there rfl (.there rfl (.there rfl (.there rfl (.there rfl (.there rfl (.there rfl (.there rfl .here))))))))) (.cons (.there rfl (.there rfl (.there rfl (.there rfl (.there rfl (.there rfl (.there rfl (.there rfl (.there rfl (.there rfl (.there rfl .here))))))))))) (.cons (.there rfl (.there rfl (.there rfl (.there rfl (.there rfl (.there rfl (.there rfl (.there rfl (.there rfl (.there rfl (.there rfl (.there rfl .here)))))))))))) .nil)))) ?_
        refine JE.seq ?_
        refine JC.cond (.tmp .here) (fun h => ?_) (fun h => ?_)
        · have h := eq_of_beq h
          have hr := info_24 h
          refine JC.exit ?_
          refine JE.exit_seq ?_
          refine JE.exit_past rfl ?_
          refine JE.exit_seq ?_
          refine JE.exit_past rfl ?_
          refine JE.exit_seq ?_
          refine JE.exit_past rfl ?_
          refine JE.exit_seq ?_
          refine JE.exit_here ?_
          refine JE.seq ?_
          refine JC.seq ?_
          refine JC.region ?_
          refine JL.val rfl (Run.move (.tmp (.there rfl .here))) ?_
          refine JL.val rfl (Run.move (.tmp (.there rfl (.there rfl (.there rfl (.there rfl .here)))))) ?_
          refine JL.val rfl (Run.conv @Try.underlying50 @Try.underlying5 (.tmp .here) (wrap_u8m _)) ?_
          refine JL.lit (os := [.tmp 65]) rfl @Try.underlying53 (@Try.sizeOf5 _) (@Try.zeroValue5 _) (by rfl) (by rfl) rfl rfl (by rfl) (.cons (.tmp .here) .nil) (by simp [Value.cells]) ?_
          intro b85 w86 hg87 hc88 Bb85
          have ge_b85 : _ ≤ b85 := Nat.le_trans hK.size hg87
          replace hO := hO.no hc88
          replace hK := hK.no hc88
          refine JL.append1 rfl @Try.underlying53 @Try.underlying53 info_u8 (by rfl) (by decide) (.tmp (.there rfl (.there rfl (.there rfl .here)))) hO (.tmp .here) Bb85 (by rfl) (by rfl) (hK.size) (by decide) ?_
          intro v89 w90 hO92 hc91
          replace hK := hK.ownv hO hc91 (by omega)
          clear Bb85
          replace hO := hO92; clear hO92
          refine JL.val rfl (Run.assign (.tmp .here)) ?_
          refine JL.nil ?_
          refine JE.keep (L := _) (.cons .here (.cons (.there rfl (.there rfl (.there rfl (.there rfl (.there rfl (.there rfl (.there rfl (.there rfl .here)))))))) .nil)) ?_
          refine JE.seq ?_
          refine JC.exit ?_
          refine JE.exit_here ?_
          refine JE.seq ?_
          refine JC.seq ?_
          refine JC.region ?_
          refine JL.val rfl (Run.move (.tmp .here)) ?_
          refine JL.val rfl (Run.assign (.tmp .here)) ?_
          refine JL.nil ?_
          refine JE.seq ?_
          refine JC.ret ?_
          refine JE.ret1 @Try.results6 .here ?_
          exact lay_close hO hK (by unfold u8s layI; (repeat (first | rw [if_pos (by omega)] | rw [if_neg (by omega)])); rfl)
        · have h := ne_of_beq_false h
          refine JC.skip ?_
          refine JE.seq ?_
          refine JC.exit ?_
          refine JE.exit_past rfl ?_
          refine JE.exit_seq ?_
          refine JE.exit_past rfl ?_
          refine JE.exit_seq ?_
          refine JE.exit_past rfl ?_
          refine JE.exit_seq ?_
          refine JE.exit_past rfl ?_
          refine JE.exit_seq ?_
          refine JE.exit_here ?_
          refine JE.seq ?_
          refine JC.seq ?_
          refine JC.region ?_
          refine JL.val rfl (Run.move (.tmp (.there rfl .here))) ?_
          refine JL.val rfl (Run.assign (.tmp .here)) ?_
          refine JL.nil ?_
          refine JE.seq ?_
          refine JC.ret ?_
          have hr : n < 24 := info_small (by omega)
          refine JE.ret1 @Try.results6 .here ?_
          exact lay_close hO hK (by unfold u8s layI; (repeat (first | rw [if_pos (by omega)] | rw [if_neg (by omega)])); rfl)


def rHead (m i n u : Int) (s : Bool) (e : Int) : Value := .tuple #[.agg #[.int .i64 m, .int .i64 i, .int .u64 n, .int .i64 u, .bool s], .int .i64 e]
def be (l : List UInt8) : Int := l.foldl (fun a c => a * 256 + (c.toNat : Int)) 0
theorem be_snoc (l : List UInt8) (c : UInt8) : be (l ++ [c]) = be l * 256 + (c.toNat : Int) := by simp [be]
theorem be_take {l : List UInt8} {k : Nat} (h : k < l.length) : be (l.take (k + 1)) = be (l.take k) * 256 + (l[k].toNat : Int) := by
  rw [List.take_succ_eq_append_getElem h, be_snoc]
theorem be_bd (l : List UInt8) : 0 ≤ be l ∧ be l < 256 ^ l.length := by
  have key : ∀ (n : Nat) (l : List UInt8), l.length = n → 0 ≤ be l ∧ be l < 256 ^ n := by
    intro n
    induction n with
    | zero => intro l h; rw [List.eq_nil_of_length_eq_zero h]; simp [be]
    | succ n ih =>
      intro l h
      have h1 := be_take (l := l) (k := n) (by omega)
      rw [List.take_of_length_le (by omega)] at h1
      have h2 := ih (l.take n) (by simp; omega)
      have h3 := bv_lt (l[n]'(by omega))
      rw [h1, Int.pow_succ]
      omega
  exact key _ l rfl
theorem be_bd7 {l : List UInt8} (h : l.length ≤ 7) : 0 ≤ be l ∧ be l ≤ 72057594037927935 := by
  have h1 := be_bd l
  have h2 : (256 : Nat) ^ l.length ≤ 256 ^ 7 := Nat.pow_le_pow_right (by decide) h
  have h3 : ((256 : Nat) ^ l.length : Int) ≤ ((256 ^ 7 : Nat) : Int) := by exact_mod_cast h2
  have h4 : ((256 ^ 7 : Nat) : Int) = 72057594037927936 := by decide
  have h5 : (((256 : Nat) : Int)) = 256 := rfl
  rw [h5] at h3
  omega
/-- What Read tells. -/
def readF : List UInt8 → Value
  | [] => rHead 0 0 0 0 false 20
  | c :: r =>
    let M : Int := c.toNat / 32
    let I : Int := c.toNat % 32
    let n : Int := if I < 24 then I else be (r.take (behindI I).toNat)
    if (I = 31 ∧ (M ≤ 1 ∨ M = 6)) ∨ (27 < I ∧ I < 31) then rHead 0 0 0 0 false 21
    else if ((c :: r).length : Int) < 1 + behindI I then rHead 0 0 0 0 false 20
    else if M = 7 ∧ I = 24 ∧ n < 32 then rHead 0 0 0 0 false 21
    else rHead M I n (1 + behindI I) (decide (I = 31 ∨ M = 7 ∨ 1 + behindI I = sizeI n)) 0
theorem behind_pos {i : Int} (h : 0 < behindI i) : 24 ≤ i ∧ i ≤ 27 := by unfold behindI at h; split at h <;> omega
theorem readF_cons {c : UInt8} {r : List UInt8} {K : Nat} (hK : behindI ((c.toNat : Int) % 32) = K) : readF (c :: r) =
    if ((c.toNat : Int) % 32 = 31 ∧ ((c.toNat : Int) / 32 ≤ 1 ∨ (c.toNat : Int) / 32 = 6)) ∨ (27 < (c.toNat : Int) % 32 ∧ (c.toNat : Int) % 32 < 31) then rHead 0 0 0 0 false 21
    else if ((c :: r).length : Int) < 1 + behindI ((c.toNat : Int) % 32) then rHead 0 0 0 0 false 20
    else if (c.toNat : Int) / 32 = 7 ∧ (c.toNat : Int) % 32 = 24 ∧ (if (c.toNat : Int) % 32 < 24 then (c.toNat : Int) % 32 else be (r.take K)) < 32 then rHead 0 0 0 0 false 21
    else rHead ((c.toNat : Int) / 32) ((c.toNat : Int) % 32) (if (c.toNat : Int) % 32 < 24 then (c.toNat : Int) % 32 else be (r.take K)) (1 + behindI ((c.toNat : Int) % 32))
      (decide ((c.toNat : Int) % 32 = 31 ∨ (c.toNat : Int) / 32 = 7 ∨ 1 + behindI ((c.toNat : Int) % 32) = sizeI (if (c.toNat : Int) % 32 < 24 then (c.toNat : Int) % 32 else be (r.take K)))) 0 := by
  have h : (behindI ((c.toNat : Int) % 32)).toNat = K := by omega
  subst h; rfl

set_option maxHeartbeats 2000000 in
theorem read_nil (a : Option Addr) (cap : Nat) (w : World) :
    Calls Try.prog 21 #[.slice a 0 cap] w fun e w' => e = .returned (rHead 0 0 0 0 false 20) ∧ Ch No w w' := by
  have hK : Ch No w w := Ch.refl w
  refine calls @Try.func21 rfl @Try.ntmps21 rfl ?_
  show JC _ _ _ _ _ [(0, .slice a 0 cap)] _
  refine JC.seq ?_
  refine JC.region ?_
  refine JL.alloc rfl (@Try.zeroValue66 _) ?_
  intro b1 w2 hg3 hc4 Bb1
  have ge_b1 : _ ≤ b1 := Nat.le_trans hK.size hg3
  replace hK := hK.no hc4
  refine JL.val rfl (Run.assign .const) ?_
  refine JL.nil ?_
  refine JE.seq ?_
  refine JC.seq ?_
  refine JC.seq ?_
  refine JC.region ?_
  refine JL.val rfl (Run.move (.tmp (.there rfl (.there rfl .here)))) ?_
  refine JL.val rfl (Run.len @Try.underlying53 (.tmp .here)) ?_
  refine JL.val rfl (Run.eql (.tmp .here) .const) ?_
  refine JL.nil ?_
  refine JE.seq ?_
  refine JC.condT (.tmp .here) (by simp) ?_
  refine JC.seq ?_
  refine JC.region ?_
  refine JL.val rfl (Run.build (places := #[(0, 1), (1, 1), (2, 1), (3, 1), (4, 1)]) (ps := []) @Try.underlying66 (@Try.zeroValue66 _) (by kernel_rfl) .nil) ?_
  refine JL.storeA (@Try.sizeOf66 _) (.tmp (.there rfl (.there rfl (.there rfl (.there rfl (.there rfl .here)))))) (.tmp .here) (by rfl) (by rfl) Bb1 rfl ?_
  intro w5 hc6 hb7
  replace hK := hK.own hc6 ge_b1
  replace Bb1 := hb7; clear hb7
  refine JL.val rfl (Run.assign .const) ?_
  refine JL.nil ?_
  refine JE.seq ?_
  refine JC.ret ?_
  refine JE.ret_seq ?_
  refine JE.retc2 @Try.results21 (.cell (.there rfl (.there rfl (.there rfl (.there rfl (.there rfl (.there rfl .here)))))) (run_loadVar (@Try.isAgg66 _) (@Try.sizeOf66 _) Bb1 (Nat.le_of_ble_eq_true rfl))) (.tmp .here) ?_
  exact ⟨rfl, hK⟩

set_option maxHeartbeats 2000000 in
theorem read_cons (b o cap : Nat) (c : UInt8) (r : List UInt8) (hcap : (c :: r).length ≤ cap) (w0 : World) (hb : Bs w0 b o (c :: r)) :
    Calls Try.prog 21 #[.slice (some ⟨b, o, none⟩) (c :: r).length cap] w0 fun e w' => e = .returned (readF (c :: r)) ∧ Ch No w0 w' := by
  have hK : Ch No w0 w0 := Ch.refl w0
  have hc := bv_lt c
  have hl : (c :: r).length = r.length + 1 := rfl
  obtain ⟨hc0, hc1⟩ := hc
  refine calls @Try.func21 rfl @Try.ntmps21 rfl ?_
  show JC _ _ _ _ _ [(0, .slice (some ⟨b, o, none⟩) (c :: r).length cap)] _
  refine JC.seq ?_
  refine JC.region ?_
  refine JL.alloc rfl (@Try.zeroValue66 _) ?_
  intro b1 w2 hg3 hc4 Bb1
  have ge_b1 : _ ≤ b1 := Nat.le_trans hK.size hg3
  replace hK := hK.no hc4
  refine JL.val rfl (Run.assign .const) ?_
  refine JL.nil ?_
  refine JE.seq ?_
  refine JC.seq ?_
  refine JC.seq ?_
  refine JC.region ?_
  refine JL.val rfl (Run.move (.tmp (.there rfl (.there rfl .here)))) ?_
  refine JL.val rfl (Run.len @Try.underlying53 (.tmp .here)) ?_
  refine JL.val rfl (Run.eql (.tmp .here) .const) ?_
  refine JL.nil ?_
  refine JE.seq ?_
  refine JC.condF (.tmp .here) (by simp; omega) ?_
  refine JC.skip ?_
  refine JE.seq ?_
  refine JC.seq ?_
  refine JC.any (f := 13) (fun w' => Ch No w0 w') mixed rfl ?_
  intro w5 hd6
  replace Bb1 := Bb1.no hd6
  replace hK := hK.no hd6
  refine JA.take 0 (by kernel_rfl) (by rfl) (by kernel_rfl) (by kernel_rfl) (L := #[true, false, false, false, false, false, false, false, false, false, false, false, false]) rfl rfl (fun w' hI => Run.move (.tmp (.there rfl (.there rfl (.there rfl (.there rfl (.there rfl .here))))))) ?_
  refine JA.take 1 (by kernel_rfl) (by rfl) (by kernel_rfl) (by kernel_rfl) (L := #[true, true, false, false, false, false, false, false, false, false, false, false, false]) rfl rfl (fun w' hI => Run.indexAddr (m := 0) @Try.underlying53 (@Try.sizeOf5 _) (.tmp .here) .const (rfl) (by omega) rfl) ?_
  refine JA.take 2 (by kernel_rfl) (by rfl) (by kernel_rfl) (by kernel_rfl) (L := #[true, true, true, false, false, false, false, false, false, false, false, false, false]) rfl rfl (fun w' hI => Run.load (@Try.isAgg5 _) (.tmp .here) (by first | exact ((hb.no hI) 0 c rfl))) ?_
  refine JA.take 3 (by kernel_rfl) (by rfl) (by kernel_rfl) (by kernel_rfl) (L := #[true, true, true, true, false, false, false, false, false, false, false, false, false]) rfl rfl (fun w' hI => Run.shr (m := 32) (.tmp .here) .const (by decide) (by decide)) ?_
  refine JA.take 4 (by kernel_rfl) (by rfl) (by kernel_rfl) (by kernel_rfl) (L := #[true, true, true, true, true, false, false, false, false, false, false, false, false]) rfl rfl (fun w' hI => Run.conv @Try.underlying5 @Try.underlying3 (.tmp .here) (wrap_i64 (by omega))) ?_
  refine JA.take 5 (by kernel_rfl) (by rfl) (by kernel_rfl) (by kernel_rfl) (L := #[true, true, true, true, true, true, false, false, false, false, false, false, false]) rfl rfl (fun w' hI => Run.move (.tmp (.there rfl (.there rfl (.there rfl (.there rfl (.there rfl (.there rfl (.there rfl (.there rfl (.there rfl (.there rfl .here)))))))))))) ?_
  refine JA.take 6 (by kernel_rfl) (by rfl) (by kernel_rfl) (by kernel_rfl) (L := #[true, true, true, true, true, true, true, false, false, false, false, false, false]) rfl rfl (fun w' hI => Run.indexAddr (m := 0) @Try.underlying53 (@Try.sizeOf5 _) (.tmp .here) .const (rfl) (by omega) rfl) ?_
  refine JA.take 7 (by kernel_rfl) (by rfl) (by kernel_rfl) (by kernel_rfl) (L := #[true, true, true, true, true, true, true, true, false, false, false, false, false]) rfl rfl (fun w' hI => Run.load (@Try.isAgg5 _) (.tmp .here) (by first | exact ((hb.no hI) 0 c rfl))) ?_
  refine JA.take 8 (by kernel_rfl) (by rfl) (by kernel_rfl) (by kernel_rfl) (L := #[true, true, true, true, true, true, true, true, true, false, false, false, false]) rfl rfl (fun w' hI => Run.bitop (.tmp .here) .const (by simp) (and_u8 5 (by decide) (p := 32) (by decide) (by decide) (by omega) (by omega))) ?_
  refine JA.take 9 (by kernel_rfl) (by rfl) (by kernel_rfl) (by kernel_rfl) (L := #[true, true, true, true, true, true, true, true, true, true, false, false, false]) rfl rfl (fun w' hI => Run.conv @Try.underlying5 @Try.underlying3 (.tmp .here) (wrap_i64 (by omega))) ?_
  refine JA.take 10 (by kernel_rfl) (by rfl) (by kernel_rfl) (by kernel_rfl) (L := #[true, true, true, true, true, true, true, true, true, true, true, false, false]) rfl rfl (fun w' hI => Run.build (places := #[(0, 1), (1, 1), (2, 1), (3, 1), (4, 1)]) (ps := [(0, .tmp 15), (1, .tmp 20)]) @Try.underlying66 (@Try.zeroValue66 _) (by kernel_rfl) (.cons (by rfl) (.tmp (.there rfl (.there rfl (.there rfl (.there rfl (.there rfl .here)))))) (by rfl) (by rfl) rfl (.cons (by rfl) (.tmp .here) (by rfl) (by rfl) rfl .nil))) ?_
  refine JA.alloc 11 rfl (by kernel_rfl) (L := #[true, true, true, true, true, true, true, true, true, true, true, true, false]) rfl rfl hK (@Try.zeroValue66 _) ?_
  intro b7 w8 hg9 hc10 Bb7
  have lt_b1_b7 : b1 < b7 := Nat.lt_of_lt_of_le Bb1.lt hg9
  have ge_b7 : _ ≤ b7 := Nat.le_trans hK.size hg9
  replace Bb1 := Bb1.no hc10
  replace hK := hK.no hc10
  refine JA.storeA 12 rfl (by kernel_rfl) (L := #[true, true, true, true, true, true, true, true, true, true, true, true, true]) rfl hK (@Try.sizeOf66 _) (.tmp .here) (.tmp (.there rfl .here)) (by rfl) (by rfl) Bb7 rfl ?_
  intro w11 hc12 hb13
  replace Bb1 := Bb1.ch hc12 (Nat.ne_of_lt lt_b1_b7)
  replace hK := hK.own hc12 ge_b7
  replace Bb7 := hb13; clear hb13
  refine JA.done (by kernel_rfl) hK ?_
  refine JE.keep (L := _) (.cons .here (.cons (.there rfl (.there rfl (.there rfl (.there rfl (.there rfl (.there rfl (.there rfl (.there rfl (.there rfl (.there rfl (.there rfl (.there rfl (.there rfl (.there rfl (.there rfl .here))))))))))))))) (.cons (.there rfl (.there rfl (.there rfl (.there rfl (.there rfl (.there rfl (.there rfl (.there rfl (.there rfl (.there rfl (.there rfl (.there rfl (.there rfl (.there rfl (.there rfl (.there rfl .here)))))))))))))))) (.cons (.there rfl (.there rfl (.there rfl (.there rfl (.there rfl (.there rfl (.there rfl (.there rfl (.there rfl (.there rfl (.there rfl (.there rfl (.there rfl (.there rfl (.there rfl (.there rfl (.there rfl .here))))))))))))))))) .nil)))) ?_
  refine JE.seq ?_
  refine JC.seq ?_
  refine JC.region ?_
  refine JL.val rfl (Run.fieldAddr (ft := 3) (foff := 1) (off := 1) @Try.underlying66 (by rfl) (@Try.sizeOf3 _) rfl rfl (.tmp .here)) ?_
  refine JL.val rfl (Run.loadB (@Try.isAgg3 _) (.tmp .here) Bb7 (by rfl)) ?_
  have hbd := behind_bd ((c.toNat : Int) % 32)
  obtain ⟨hbd0, hbd1⟩ := hbd
  refine JL.call rfl (Run.call @Try.call26 (.cons (.tmp .here) .nil)) (behind_any _ _) ?_
  rintro e w11 ⟨rfl, rfl⟩
  refine JRet.ret ?_
  refine JL.val rfl (Run.add .const (.tmp .here) (wrap_i64 (by omega))) ?_
  refine JL.val rfl (Run.fieldAddr (ft := 3) (foff := 3) (off := 3) @Try.underlying66 (by rfl) (@Try.sizeOf3 _) rfl rfl (.tmp (.there rfl (.there rfl (.there rfl (.there rfl .here)))))) ?_
  refine JL.storeB (@Try.sizeOf3 _) (.tmp .here) (.tmp (.there rfl .here)) (by rfl) (by rfl) Bb7 rfl ?_
  intro w14 hc15 hb16
  replace Bb1 := Bb1.ch hc15 (Nat.ne_of_lt lt_b1_b7)
  replace hK := hK.own hc15 ge_b7
  replace Bb7 := hb16; clear hb16
  refine JL.nil ?_
  refine JE.seq ?_
  obtain ⟨K, hKK⟩ : ∃ K : Nat, behindI ((c.toNat : Int) % 32) = K := Int.eq_ofNat_of_zero_le hbd0
  refine JC.seqc (α := Int) (fun N => [(0, .slice (some ⟨b, o, none⟩) (c :: r).length cap), (2, .pointer (some ⟨b1, 0, none⟩)), (4, .pointer (some ⟨b7, 0, none⟩))]) (fun N w => Blk w b7 66 [.int .i64 ((c.toNat : Int) / 32), .int .i64 ((c.toNat : Int) % 32), .int .u64 (N), .int .i64 (1 + behindI ((c.toNat : Int) % 32)), .bool false] ∧ Blk w b1 66 [.int .i64 0, .int .i64 0, .int .u64 0, .int .i64 0, .bool false] ∧ (¬ (((c.toNat : Int) % 32 = 31 ∧ ((c.toNat : Int) / 32 ≤ 1 ∨ (c.toNat : Int) / 32 = 6)) ∨ (27 < (c.toNat : Int) % 32 ∧ (c.toNat : Int) % 32 < 31)) ∧ ¬ (((c :: r).length : Int) < 1 + behindI ((c.toNat : Int) % 32))) ∧ N = (if (c.toNat : Int) % 32 < 24 then (c.toNat : Int) % 32 else 0) ∧ Ch No w0 w) ?_ ?_
  · refine JC.block ?_
    refine JC.seq ?_
    refine JC.seq ?_
    refine JC.region ?_
    refine JL.val rfl (Run.fieldAddr (ft := 3) (foff := 1) (off := 1) @Try.underlying66 (by rfl) (@Try.sizeOf3 _) rfl rfl (.tmp (.there rfl (.there rfl (.there rfl (.there rfl (.there rfl .here))))))) ?_
    refine JL.val rfl (Run.loadB (@Try.isAgg3 _) (.tmp .here) Bb7 (by rfl)) ?_
    refine JL.val rfl (Run.eql (.tmp .here) .const) ?_
    refine JL.val rfl (Run.move (.tmp .here)) ?_
    refine JL.gsplit (dj := 31) (want := true) .here (fun g31B => ?_) (fun g31B => ?_)
    · have g31 := eq_of_beq g31B
      refine JL.gyesb (oj := _) (by rfl) (by rfl) .here g31B ?_
      refine JL.val rfl (Run.fieldAddr (ft := 3) (foff := 0) (off := 0) @Try.underlying66 (by rfl) (@Try.sizeOf3 _) rfl rfl (.tmp (.there rfl (.there rfl (.there rfl (.there rfl (.there rfl (.there rfl (.there rfl (.there rfl (.there rfl .here))))))))))) ?_
      refine JL.gyesb (oj := _) (by rfl) (by rfl) (.there rfl .here) g31B ?_
      refine JL.val rfl (Run.loadB (@Try.isAgg3 _) (.tmp .here) Bb7 (by rfl)) ?_
      refine JL.gyesb (oj := _) (by rfl) (by rfl) (.there rfl (.there rfl .here)) g31B ?_
      refine JL.val rfl (Run.leq (.tmp .here) .const) ?_
      refine JL.gyesb (oj := _) (by rfl) (by rfl) (.there rfl (.there rfl (.there rfl .here))) g31B ?_
      refine JL.val rfl (Run.move (.tmp .here)) ?_
      refine JL.gsplit (dj := 35) (want := false) .here (fun g1B => ?_) (fun g1B => ?_)
      · have g1 := of_decide_eq_false g1B
        refine JL.gyesb (oj := _) (by rfl) (by rfl) .here g1B ?_
        refine JL.val rfl (Run.fieldAddr (ft := 3) (foff := 0) (off := 0) @Try.underlying66 (by rfl) (@Try.sizeOf3 _) rfl rfl (.tmp (.there rfl (.there rfl (.there rfl (.there rfl (.there rfl (.there rfl (.there rfl (.there rfl (.there rfl (.there rfl (.there rfl (.there rfl (.there rfl .here))))))))))))))) ?_
        refine JL.gyesb (oj := _) (by rfl) (by rfl) (.there rfl .here) g1B ?_
        refine JL.val rfl (Run.loadB (@Try.isAgg3 _) (.tmp .here) Bb7 (by rfl)) ?_
        refine JL.gyesb (oj := _) (by rfl) (by rfl) (.there rfl (.there rfl .here)) g1B ?_
        refine JL.val rfl (Run.eql (.tmp .here) .const) ?_
        refine JL.gyesb (oj := _) (by rfl) (by rfl) (.there rfl (.there rfl (.there rfl (.there rfl (.there rfl (.there rfl (.there rfl .here))))))) g31B ?_
        refine JL.val rfl (Run.pickF (.tmp (.there rfl (.there rfl (.there rfl .here)))) g1B (.tmp .here)) ?_
        refine JL.val rfl (Run.pickT (.tmp (.there rfl (.there rfl (.there rfl (.there rfl (.there rfl (.there rfl (.there rfl (.there rfl .here))))))))) g31B (.tmp .here)) ?_
        refine JL.val rfl (Run.assign (.tmp .here)) ?_
        refine JL.nil ?_
        refine JE.keep (L := _) (.cons .here (.cons (.there rfl (.there rfl (.there rfl (.there rfl (.there rfl (.there rfl (.there rfl (.there rfl (.there rfl (.there rfl (.there rfl (.there rfl (.there rfl (.there rfl (.there rfl (.there rfl (.there rfl (.there rfl (.there rfl .here))))))))))))))))))) (.cons (.there rfl (.there rfl (.there rfl (.there rfl (.there rfl (.there rfl (.there rfl (.there rfl (.there rfl (.there rfl (.there rfl (.there rfl (.there rfl (.there rfl (.there rfl (.there rfl (.there rfl (.there rfl (.there rfl (.there rfl .here)))))))))))))))))))) (.cons (.there rfl (.there rfl (.there rfl (.there rfl (.there rfl (.there rfl (.there rfl (.there rfl (.there rfl (.there rfl (.there rfl (.there rfl (.there rfl (.there rfl (.there rfl (.there rfl (.there rfl (.there rfl (.there rfl (.there rfl (.there rfl .here))))))))))))))))))))) (.cons (.there rfl (.there rfl (.there rfl (.there rfl (.there rfl (.there rfl (.there rfl (.there rfl (.there rfl (.there rfl (.there rfl (.there rfl (.there rfl (.there rfl (.there rfl (.there rfl (.there rfl (.there rfl (.there rfl (.there rfl (.there rfl (.there rfl .here)))))))))))))))))))))) .nil))))) ?_
        refine JE.seq ?_
        refine JC.cond (.tmp .here) (fun h6B => ?_) (fun h6B => ?_)
        · have h6 := eq_of_beq h6B
          refine JC.skip ?_
          refine JE.seq ?_
          refine JC.condT (.tmp .here) (h6B) ?_
          refine JC.seq ?_
          refine JC.region ?_
          refine JL.val rfl (Run.build (places := #[(0, 1), (1, 1), (2, 1), (3, 1), (4, 1)]) (ps := []) @Try.underlying66 (@Try.zeroValue66 _) (by kernel_rfl) .nil) ?_
          refine JL.storeA (@Try.sizeOf66 _) (.tmp (.there rfl (.there rfl (.there rfl (.there rfl .here))))) (.tmp .here) (by rfl) (by rfl) Bb1 rfl ?_
          intro w36 hc37 hb38
          replace Bb7 := Bb7.ch hc37 (Nat.ne_of_gt lt_b1_b7)
          replace hK := hK.own hc37 ge_b1
          replace Bb1 := hb38; clear hb38
          refine JL.val rfl (Run.assign .const) ?_
          refine JL.nil ?_
          refine JE.seq ?_
          refine JC.ret ?_
          refine JE.ret_blk ?_
          refine JE.ret_seq ?_
          refine JE.retc2 @Try.results21 (.cell (.there rfl (.there rfl (.there rfl (.there rfl (.there rfl .here))))) (run_loadVar (@Try.isAgg66 _) (@Try.sizeOf66 _) Bb1 (Nat.le_of_ble_eq_true rfl))) (.tmp .here) ?_
          exact ⟨congrArg Ending.returned (by rw [readF_cons hKK, if_pos (by omega)]; rfl), hK⟩
        · have h6 := ne_of_beq_false h6B
          refine JC.region ?_
          refine JL.val rfl (Run.fieldAddr (ft := 3) (foff := 1) (off := 1) @Try.underlying66 (by rfl) (@Try.sizeOf3 _) rfl rfl (.tmp (.there rfl .here))) ?_
          refine JL.val rfl (Run.loadB (@Try.isAgg3 _) (.tmp .here) Bb7 (by rfl)) ?_
          refine JL.val rfl (Run.gtr (.tmp .here) .const) ?_
          refine JL.val rfl (Run.move (.tmp .here)) ?_
          refine JL.gsplit (dj := 44) (want := true) .here (fun g27B => ?_) (fun g27B => ?_)
          · have g27 := of_decide_eq_true g27B
            refine JL.gyesb (oj := _) (by rfl) (by rfl) .here g27B ?_
            refine JL.val rfl (Run.fieldAddr (ft := 3) (foff := 1) (off := 1) @Try.underlying66 (by rfl) (@Try.sizeOf3 _) rfl rfl (.tmp (.there rfl (.there rfl (.there rfl (.there rfl (.there rfl .here))))))) ?_
            refine JL.gyesb (oj := _) (by rfl) (by rfl) (.there rfl .here) g27B ?_
            refine JL.val rfl (Run.loadB (@Try.isAgg3 _) (.tmp .here) Bb7 (by rfl)) ?_
            refine JL.gyesb (oj := _) (by rfl) (by rfl) (.there rfl (.there rfl .here)) g27B ?_
            refine JL.val rfl (Run.lss (.tmp .here) .const) ?_
            refine JL.val rfl (Run.pickT (.tmp (.there rfl (.there rfl (.there rfl .here)))) g27B (.tmp .here)) ?_
            refine JL.val rfl (Run.assign (.tmp .here)) ?_
            refine JL.nil ?_
            refine JE.keep (L := _) (.cons .here (.cons (.there rfl (.there rfl (.there rfl (.there rfl (.there rfl (.there rfl (.there rfl (.there rfl (.there rfl (.there rfl .here)))))))))) (.cons (.there rfl (.there rfl (.there rfl (.there rfl (.there rfl (.there rfl (.there rfl (.there rfl (.there rfl (.there rfl (.there rfl .here))))))))))) (.cons (.there rfl (.there rfl (.there rfl (.there rfl (.there rfl (.there rfl (.there rfl (.there rfl (.there rfl (.there rfl (.there rfl (.there rfl .here)))))))))))) (.cons (.there rfl (.there rfl (.there rfl (.there rfl (.there rfl (.there rfl (.there rfl (.there rfl (.there rfl (.there rfl (.there rfl (.there rfl (.there rfl .here))))))))))))) .nil))))) ?_
            refine JE.seq ?_
            refine JC.cond (.tmp .here) (fun h31 => ?_) (fun h31 => ?_)
            · have h31 := of_decide_eq_true h31
              refine JC.seq ?_
              refine JC.region ?_
              refine JL.val rfl (Run.build (places := #[(0, 1), (1, 1), (2, 1), (3, 1), (4, 1)]) (ps := []) @Try.underlying66 (@Try.zeroValue66 _) (by kernel_rfl) .nil) ?_
              refine JL.storeA (@Try.sizeOf66 _) (.tmp (.there rfl (.there rfl (.there rfl (.there rfl .here))))) (.tmp .here) (by rfl) (by rfl) Bb1 rfl ?_
              intro w39 hc40 hb41
              replace Bb7 := Bb7.ch hc40 (Nat.ne_of_gt lt_b1_b7)
              replace hK := hK.own hc40 ge_b1
              replace Bb1 := hb41; clear hb41
              refine JL.val rfl (Run.assign .const) ?_
              refine JL.nil ?_
              refine JE.seq ?_
              refine JC.ret ?_
              refine JE.ret_blk ?_
              refine JE.ret_seq ?_
              refine JE.retc2 @Try.results21 (.cell (.there rfl (.there rfl (.there rfl (.there rfl (.there rfl .here))))) (run_loadVar (@Try.isAgg66 _) (@Try.sizeOf66 _) Bb1 (Nat.le_of_ble_eq_true rfl))) (.tmp .here) ?_
              exact ⟨congrArg Ending.returned (by rw [readF_cons hKK, if_pos (by omega)]; rfl), hK⟩
            · have h31 := of_decide_eq_false h31
              refine JC.seq ?_
              refine JC.region ?_
              refine JL.val rfl (Run.move (.tmp (.there rfl (.there rfl (.there rfl (.there rfl .here)))))) ?_
              refine JL.val rfl (Run.len @Try.underlying53 (.tmp .here)) ?_
              refine JL.val rfl (Run.fieldAddr (ft := 3) (foff := 3) (off := 3) @Try.underlying66 (by rfl) (@Try.sizeOf3 _) rfl rfl (.tmp (.there rfl (.there rfl (.there rfl .here))))) ?_
              refine JL.val rfl (Run.loadB (@Try.isAgg3 _) (.tmp .here) Bb7 (by rfl)) ?_
              refine JL.val rfl (Run.lss (.tmp (.there rfl (.there rfl .here))) (.tmp .here)) ?_
              refine JL.val rfl (Run.assign (.tmp .here)) ?_
              refine JL.nil ?_
              refine JE.seq ?_
              refine JC.cond (.tmp .here) (fun hs => ?_) (fun hs => ?_)
              · have hs := of_decide_eq_true hs
                refine JC.seq ?_
                refine JC.region ?_
                refine JL.val rfl (Run.build (places := #[(0, 1), (1, 1), (2, 1), (3, 1), (4, 1)]) (ps := []) @Try.underlying66 (@Try.zeroValue66 _) (by kernel_rfl) .nil) ?_
                refine JL.storeA (@Try.sizeOf66 _) (.tmp (.there rfl (.there rfl (.there rfl (.there rfl (.there rfl (.there rfl (.there rfl (.there rfl (.there rfl (.there rfl .here))))))))))) (.tmp .here) (by rfl) (by rfl) Bb1 rfl ?_
                intro w42 hc43 hb44
                replace Bb7 := Bb7.ch hc43 (Nat.ne_of_gt lt_b1_b7)
                replace hK := hK.own hc43 ge_b1
                replace Bb1 := hb44; clear hb44
                refine JL.val rfl (Run.assign .const) ?_
                refine JL.nil ?_
                refine JE.keep (L := _) (.cons .here (.cons (.there rfl (.there rfl (.there rfl (.there rfl (.there rfl (.there rfl (.there rfl (.there rfl (.there rfl .here))))))))) (.cons (.there rfl (.there rfl (.there rfl (.there rfl (.there rfl (.there rfl (.there rfl (.there rfl (.there rfl (.there rfl (.there rfl .here))))))))))) (.cons (.there rfl (.there rfl (.there rfl (.there rfl (.there rfl (.there rfl (.there rfl (.there rfl (.there rfl (.there rfl (.there rfl (.there rfl .here)))))))))))) .nil)))) ?_
                refine JE.seq ?_
                refine JC.ret ?_
                refine JE.ret_blk ?_
                refine JE.ret_seq ?_
                refine JE.retc2 @Try.results21 (.cell (.there rfl (.there rfl .here)) (run_loadVar (@Try.isAgg66 _) (@Try.sizeOf66 _) Bb1 (Nat.le_of_ble_eq_true rfl))) (.tmp .here) ?_
                exact ⟨congrArg Ending.returned (by rw [readF_cons hKK, if_neg (by omega), if_pos (by omega)]; rfl), hK⟩
              · have hs := of_decide_eq_false hs
                refine JC.seq ?_
                refine JC.region ?_
                refine JL.val rfl (Run.fieldAddr (ft := 3) (foff := 1) (off := 1) @Try.underlying66 (by rfl) (@Try.sizeOf3 _) rfl rfl (.tmp (.there rfl (.there rfl (.there rfl (.there rfl (.there rfl (.there rfl (.there rfl .here))))))))) ?_
                refine JL.val rfl (Run.loadB (@Try.isAgg3 _) (.tmp .here) Bb7 (by rfl)) ?_
                refine JL.val rfl (Run.lss (.tmp .here) .const) ?_
                refine JL.val rfl (Run.assign (.tmp .here)) ?_
                refine JL.nil ?_
                refine JE.keep (L := _) (.cons .here (.cons (.there rfl (.there rfl (.there rfl (.there rfl (.there rfl (.there rfl (.there rfl (.there rfl (.there rfl (.there rfl (.there rfl .here))))))))))) (.cons (.there rfl (.there rfl (.there rfl (.there rfl (.there rfl (.there rfl (.there rfl (.there rfl (.there rfl (.there rfl (.there rfl (.there rfl .here)))))))))))) (.cons (.there rfl (.there rfl (.there rfl (.there rfl (.there rfl (.there rfl (.there rfl (.there rfl (.there rfl (.there rfl (.there rfl (.there rfl (.there rfl .here))))))))))))) (.cons (.there rfl (.there rfl (.there rfl (.there rfl (.there rfl (.there rfl (.there rfl (.there rfl (.there rfl (.there rfl (.there rfl (.there rfl (.there rfl (.there rfl .here)))))))))))))) .nil))))) ?_
                refine JE.seq ?_
                refine JC.cond (.tmp .here) (fun hi => ?_) (fun hi => ?_)
                · have hi := of_decide_eq_true hi
                  refine JC.region ?_
                  refine JL.val rfl (Run.fieldAddr (ft := 3) (foff := 1) (off := 1) @Try.underlying66 (by rfl) (@Try.sizeOf3 _) rfl rfl (.tmp (.there rfl .here))) ?_
                  refine JL.val rfl (Run.loadB (@Try.isAgg3 _) (.tmp .here) Bb7 (by rfl)) ?_
                  refine JL.val rfl (Run.conv @Try.underlying3 @Try.underlying50 (.tmp .here) (wrap_u64 (by omega))) ?_
                  refine JL.val rfl (Run.fieldAddr (ft := 50) (foff := 2) (off := 2) @Try.underlying66 (by rfl) (@Try.sizeOf50 _) rfl rfl (.tmp (.there rfl (.there rfl (.there rfl (.there rfl .here)))))) ?_
                  refine JL.storeB (@Try.sizeOf50 _) (.tmp .here) (.tmp (.there rfl .here)) (by rfl) (by rfl) Bb7 rfl ?_
                  intro w45 hc46 hb47
                  replace Bb1 := Bb1.ch hc46 (Nat.ne_of_lt lt_b1_b7)
                  replace hK := hK.own hc46 ge_b7
                  replace Bb7 := hb47; clear hb47
                  refine JL.nil ?_
                  refine JE.blk ?_
                  exact JE.meet ((c.toNat : Int) % 32) (.cons (.there rfl (.there rfl (.there rfl (.there rfl (.there rfl (.there rfl (.there rfl (.there rfl .here)))))))) (.cons (.there rfl (.there rfl (.there rfl (.there rfl (.there rfl (.there rfl (.there rfl .here))))))) (.cons (.there rfl (.there rfl (.there rfl (.there rfl (.there rfl .here))))) .nil))) (⟨Bb7, Bb1, ⟨by omega, by omega⟩, by rw [if_pos hi], hK⟩)
                · have hi := of_decide_eq_false hi
                  refine JC.skip ?_
                  refine JE.blk ?_
                  exact JE.meet 0 (.cons (.there rfl (.there rfl (.there rfl (.there rfl .here)))) (.cons (.there rfl (.there rfl (.there rfl .here))) (.cons (.there rfl .here) .nil))) (⟨Bb7, Bb1, ⟨by omega, by omega⟩, by rw [if_neg hi], hK⟩)
          · have g27 := of_decide_eq_false g27B
            refine JL.gnob rfl (oj := _) (by rfl) (by rfl) .here g27B ?_
            refine JL.gnob rfl (oj := _) (by rfl) (by rfl) (.there rfl .here) g27B ?_
            refine JL.gnob rfl (oj := _) (by rfl) (by rfl) (.there rfl (.there rfl .here)) g27B ?_
            refine JL.val rfl (Run.pickF (.tmp (.there rfl (.there rfl (.there rfl .here)))) g27B .const) ?_
            refine JL.val rfl (Run.assign (.tmp .here)) ?_
            refine JL.nil ?_
            refine JE.keep (L := _) (.cons .here (.cons (.there rfl (.there rfl (.there rfl (.there rfl (.there rfl (.there rfl (.there rfl (.there rfl (.there rfl (.there rfl .here)))))))))) (.cons (.there rfl (.there rfl (.there rfl (.there rfl (.there rfl (.there rfl (.there rfl (.there rfl (.there rfl (.there rfl (.there rfl .here))))))))))) (.cons (.there rfl (.there rfl (.there rfl (.there rfl (.there rfl (.there rfl (.there rfl (.there rfl (.there rfl (.there rfl (.there rfl (.there rfl .here)))))))))))) (.cons (.there rfl (.there rfl (.there rfl (.there rfl (.there rfl (.there rfl (.there rfl (.there rfl (.there rfl (.there rfl (.there rfl (.there rfl (.there rfl .here))))))))))))) .nil))))) ?_
            refine JE.seq ?_
            refine JC.condF (.tmp .here) (rfl) ?_
            refine JC.seq ?_
            refine JC.region ?_
            refine JL.val rfl (Run.move (.tmp (.there rfl (.there rfl (.there rfl (.there rfl .here)))))) ?_
            refine JL.val rfl (Run.len @Try.underlying53 (.tmp .here)) ?_
            refine JL.val rfl (Run.fieldAddr (ft := 3) (foff := 3) (off := 3) @Try.underlying66 (by rfl) (@Try.sizeOf3 _) rfl rfl (.tmp (.there rfl (.there rfl (.there rfl .here))))) ?_
            refine JL.val rfl (Run.loadB (@Try.isAgg3 _) (.tmp .here) Bb7 (by rfl)) ?_
            refine JL.val rfl (Run.lss (.tmp (.there rfl (.there rfl .here))) (.tmp .here)) ?_
            refine JL.val rfl (Run.assign (.tmp .here)) ?_
            refine JL.nil ?_
            refine JE.seq ?_
            refine JC.cond (.tmp .here) (fun hs => ?_) (fun hs => ?_)
            · have hs := of_decide_eq_true hs
              refine JC.seq ?_
              refine JC.region ?_
              refine JL.val rfl (Run.build (places := #[(0, 1), (1, 1), (2, 1), (3, 1), (4, 1)]) (ps := []) @Try.underlying66 (@Try.zeroValue66 _) (by kernel_rfl) .nil) ?_
              refine JL.storeA (@Try.sizeOf66 _) (.tmp (.there rfl (.there rfl (.there rfl (.there rfl (.there rfl (.there rfl (.there rfl (.there rfl (.there rfl (.there rfl .here))))))))))) (.tmp .here) (by rfl) (by rfl) Bb1 rfl ?_
              intro w48 hc49 hb50
              replace Bb7 := Bb7.ch hc49 (Nat.ne_of_gt lt_b1_b7)
              replace hK := hK.own hc49 ge_b1
              replace Bb1 := hb50; clear hb50
              refine JL.val rfl (Run.assign .const) ?_
              refine JL.nil ?_
              refine JE.keep (L := _) (.cons .here (.cons (.there rfl (.there rfl (.there rfl (.there rfl (.there rfl (.there rfl (.there rfl (.there rfl (.there rfl .here))))))))) (.cons (.there rfl (.there rfl (.there rfl (.there rfl (.there rfl (.there rfl (.there rfl (.there rfl (.there rfl (.there rfl (.there rfl .here))))))))))) (.cons (.there rfl (.there rfl (.there rfl (.there rfl (.there rfl (.there rfl (.there rfl (.there rfl (.there rfl (.there rfl (.there rfl (.there rfl .here)))))))))))) .nil)))) ?_
              refine JE.seq ?_
              refine JC.ret ?_
              refine JE.ret_blk ?_
              refine JE.ret_seq ?_
              refine JE.retc2 @Try.results21 (.cell (.there rfl (.there rfl .here)) (run_loadVar (@Try.isAgg66 _) (@Try.sizeOf66 _) Bb1 (Nat.le_of_ble_eq_true rfl))) (.tmp .here) ?_
              exact ⟨congrArg Ending.returned (by rw [readF_cons hKK, if_neg (by omega), if_pos (by omega)]; rfl), hK⟩
            · have hs := of_decide_eq_false hs
              refine JC.seq ?_
              refine JC.region ?_
              refine JL.val rfl (Run.fieldAddr (ft := 3) (foff := 1) (off := 1) @Try.underlying66 (by rfl) (@Try.sizeOf3 _) rfl rfl (.tmp (.there rfl (.there rfl (.there rfl (.there rfl (.there rfl (.there rfl (.there rfl .here))))))))) ?_
              refine JL.val rfl (Run.loadB (@Try.isAgg3 _) (.tmp .here) Bb7 (by rfl)) ?_
              refine JL.val rfl (Run.lss (.tmp .here) .const) ?_
              refine JL.val rfl (Run.assign (.tmp .here)) ?_
              refine JL.nil ?_
              refine JE.keep (L := _) (.cons .here (.cons (.there rfl (.there rfl (.there rfl (.there rfl (.there rfl (.there rfl (.there rfl (.there rfl (.there rfl (.there rfl (.there rfl .here))))))))))) (.cons (.there rfl (.there rfl (.there rfl (.there rfl (.there rfl (.there rfl (.there rfl (.there rfl (.there rfl (.there rfl (.there rfl (.there rfl .here)))))))))))) (.cons (.there rfl (.there rfl (.there rfl (.there rfl (.there rfl (.there rfl (.there rfl (.there rfl (.there rfl (.there rfl (.there rfl (.there rfl (.there rfl .here))))))))))))) (.cons (.there rfl (.there rfl (.there rfl (.there rfl (.there rfl (.there rfl (.there rfl (.there rfl (.there rfl (.there rfl (.there rfl (.there rfl (.there rfl (.there rfl .here)))))))))))))) .nil))))) ?_
              refine JE.seq ?_
              refine JC.cond (.tmp .here) (fun hi => ?_) (fun hi => ?_)
              · have hi := of_decide_eq_true hi
                refine JC.region ?_
                refine JL.val rfl (Run.fieldAddr (ft := 3) (foff := 1) (off := 1) @Try.underlying66 (by rfl) (@Try.sizeOf3 _) rfl rfl (.tmp (.there rfl .here))) ?_
                refine JL.val rfl (Run.loadB (@Try.isAgg3 _) (.tmp .here) Bb7 (by rfl)) ?_
                refine JL.val rfl (Run.conv @Try.underlying3 @Try.underlying50 (.tmp .here) (wrap_u64 (by omega))) ?_
                refine JL.val rfl (Run.fieldAddr (ft := 50) (foff := 2) (off := 2) @Try.underlying66 (by rfl) (@Try.sizeOf50 _) rfl rfl (.tmp (.there rfl (.there rfl (.there rfl (.there rfl .here)))))) ?_
                refine JL.storeB (@Try.sizeOf50 _) (.tmp .here) (.tmp (.there rfl .here)) (by rfl) (by rfl) Bb7 rfl ?_
                intro w51 hc52 hb53
                replace Bb1 := Bb1.ch hc52 (Nat.ne_of_lt lt_b1_b7)
                replace hK := hK.own hc52 ge_b7
                replace Bb7 := hb53; clear hb53
                refine JL.nil ?_
                refine JE.blk ?_
                exact JE.meet ((c.toNat : Int) % 32) (.cons (.there rfl (.there rfl (.there rfl (.there rfl (.there rfl (.there rfl (.there rfl (.there rfl .here)))))))) (.cons (.there rfl (.there rfl (.there rfl (.there rfl (.there rfl (.there rfl (.there rfl .here))))))) (.cons (.there rfl (.there rfl (.there rfl (.there rfl (.there rfl .here))))) .nil))) (⟨Bb7, Bb1, ⟨by omega, by omega⟩, by rw [if_pos hi], hK⟩)
              · have hi := of_decide_eq_false hi
                refine JC.skip ?_
                refine JE.blk ?_
                exact JE.meet 0 (.cons (.there rfl (.there rfl (.there rfl (.there rfl .here)))) (.cons (.there rfl (.there rfl (.there rfl .here))) (.cons (.there rfl .here) .nil))) (⟨Bb7, Bb1, ⟨by omega, by omega⟩, by rw [if_neg hi], hK⟩)
      · have g1 := of_decide_eq_true g1B
        refine JL.gnob rfl (oj := _) (by rfl) (by rfl) .here g1B ?_
        refine JL.gnob rfl (oj := _) (by rfl) (by rfl) (.there rfl .here) g1B ?_
        refine JL.gnob rfl (oj := _) (by rfl) (by rfl) (.there rfl (.there rfl .here)) g1B ?_
        refine JL.gyesb (oj := _) (by rfl) (by rfl) (.there rfl (.there rfl (.there rfl (.there rfl (.there rfl (.there rfl (.there rfl .here))))))) g31B ?_
        refine JL.val rfl (Run.pickT (.tmp (.there rfl (.there rfl (.there rfl .here)))) g1B .const) ?_
        refine JL.val rfl (Run.pickT (.tmp (.there rfl (.there rfl (.there rfl (.there rfl (.there rfl (.there rfl (.there rfl (.there rfl .here))))))))) g31B (.tmp .here)) ?_
        refine JL.val rfl (Run.assign (.tmp .here)) ?_
        refine JL.nil ?_
        refine JE.keep (L := _) (.cons .here (.cons (.there rfl (.there rfl (.there rfl (.there rfl (.there rfl (.there rfl (.there rfl (.there rfl (.there rfl (.there rfl (.there rfl (.there rfl (.there rfl (.there rfl (.there rfl (.there rfl (.there rfl (.there rfl (.there rfl .here))))))))))))))))))) (.cons (.there rfl (.there rfl (.there rfl (.there rfl (.there rfl (.there rfl (.there rfl (.there rfl (.there rfl (.there rfl (.there rfl (.there rfl (.there rfl (.there rfl (.there rfl (.there rfl (.there rfl (.there rfl (.there rfl (.there rfl .here)))))))))))))))))))) (.cons (.there rfl (.there rfl (.there rfl (.there rfl (.there rfl (.there rfl (.there rfl (.there rfl (.there rfl (.there rfl (.there rfl (.there rfl (.there rfl (.there rfl (.there rfl (.there rfl (.there rfl (.there rfl (.there rfl (.there rfl (.there rfl .here))))))))))))))))))))) (.cons (.there rfl (.there rfl (.there rfl (.there rfl (.there rfl (.there rfl (.there rfl (.there rfl (.there rfl (.there rfl (.there rfl (.there rfl (.there rfl (.there rfl (.there rfl (.there rfl (.there rfl (.there rfl (.there rfl (.there rfl (.there rfl (.there rfl .here)))))))))))))))))))))) .nil))))) ?_
        refine JE.seq ?_
        refine JC.condT (.tmp .here) (rfl) ?_
        refine JC.skip ?_
        refine JE.seq ?_
        refine JC.condT (.tmp .here) (rfl) ?_
        refine JC.seq ?_
        refine JC.region ?_
        refine JL.val rfl (Run.build (places := #[(0, 1), (1, 1), (2, 1), (3, 1), (4, 1)]) (ps := []) @Try.underlying66 (@Try.zeroValue66 _) (by kernel_rfl) .nil) ?_
        refine JL.storeA (@Try.sizeOf66 _) (.tmp (.there rfl (.there rfl (.there rfl (.there rfl .here))))) (.tmp .here) (by rfl) (by rfl) Bb1 rfl ?_
        intro w33 hc34 hb35
        replace Bb7 := Bb7.ch hc34 (Nat.ne_of_gt lt_b1_b7)
        replace hK := hK.own hc34 ge_b1
        replace Bb1 := hb35; clear hb35
        refine JL.val rfl (Run.assign .const) ?_
        refine JL.nil ?_
        refine JE.seq ?_
        refine JC.ret ?_
        refine JE.ret_blk ?_
        refine JE.ret_seq ?_
        refine JE.retc2 @Try.results21 (.cell (.there rfl (.there rfl (.there rfl (.there rfl (.there rfl .here))))) (run_loadVar (@Try.isAgg66 _) (@Try.sizeOf66 _) Bb1 (Nat.le_of_ble_eq_true rfl))) (.tmp .here) ?_
        exact ⟨congrArg Ending.returned (by rw [readF_cons hKK, if_pos (by omega)]; rfl), hK⟩
    · have g31 := ne_of_beq_false g31B
      refine JL.gnob rfl (oj := _) (by rfl) (by rfl) .here g31B ?_
      refine JL.gnob rfl (oj := _) (by rfl) (by rfl) (.there rfl .here) g31B ?_
      refine JL.gnob rfl (oj := _) (by rfl) (by rfl) (.there rfl (.there rfl .here)) g31B ?_
      refine JL.gnob rfl (oj := _) (by rfl) (by rfl) (.there rfl (.there rfl (.there rfl .here))) g31B ?_
      refine JL.gund rfl (oj := _) (by rfl) (by rfl) .here ?_
      refine JL.gund rfl (oj := _) (by rfl) (by rfl) (.there rfl .here) ?_
      refine JL.gund rfl (oj := _) (by rfl) (by rfl) (.there rfl (.there rfl .here)) ?_
      refine JL.gnob rfl (oj := _) (by rfl) (by rfl) (.there rfl (.there rfl (.there rfl (.there rfl (.there rfl (.there rfl (.there rfl .here))))))) g31B ?_
      refine JL.val rfl (Run.pickF (.tmp (.there rfl (.there rfl (.there rfl (.there rfl (.there rfl (.there rfl (.there rfl (.there rfl .here))))))))) g31B .const) ?_
      refine JL.val rfl (Run.assign (.tmp .here)) ?_
      refine JL.nil ?_
      refine JE.keep (L := _) (.cons .here (.cons (.there rfl (.there rfl (.there rfl (.there rfl (.there rfl (.there rfl (.there rfl (.there rfl (.there rfl (.there rfl (.there rfl (.there rfl (.there rfl (.there rfl (.there rfl (.there rfl (.there rfl (.there rfl (.there rfl .here))))))))))))))))))) (.cons (.there rfl (.there rfl (.there rfl (.there rfl (.there rfl (.there rfl (.there rfl (.there rfl (.there rfl (.there rfl (.there rfl (.there rfl (.there rfl (.there rfl (.there rfl (.there rfl (.there rfl (.there rfl (.there rfl (.there rfl .here)))))))))))))))))))) (.cons (.there rfl (.there rfl (.there rfl (.there rfl (.there rfl (.there rfl (.there rfl (.there rfl (.there rfl (.there rfl (.there rfl (.there rfl (.there rfl (.there rfl (.there rfl (.there rfl (.there rfl (.there rfl (.there rfl (.there rfl (.there rfl .here))))))))))))))))))))) (.cons (.there rfl (.there rfl (.there rfl (.there rfl (.there rfl (.there rfl (.there rfl (.there rfl (.there rfl (.there rfl (.there rfl (.there rfl (.there rfl (.there rfl (.there rfl (.there rfl (.there rfl (.there rfl (.there rfl (.there rfl (.there rfl (.there rfl .here)))))))))))))))))))))) .nil))))) ?_
      refine JE.seq ?_
      refine JC.condF (.tmp .here) (rfl) ?_
      refine JC.region ?_
      refine JL.val rfl (Run.fieldAddr (ft := 3) (foff := 1) (off := 1) @Try.underlying66 (by rfl) (@Try.sizeOf3 _) rfl rfl (.tmp (.there rfl .here))) ?_
      refine JL.val rfl (Run.loadB (@Try.isAgg3 _) (.tmp .here) Bb7 (by rfl)) ?_
      refine JL.val rfl (Run.gtr (.tmp .here) .const) ?_
      refine JL.val rfl (Run.move (.tmp .here)) ?_
      refine JL.gsplit (dj := 44) (want := true) .here (fun g27B => ?_) (fun g27B => ?_)
      · have g27 := of_decide_eq_true g27B
        refine JL.gyesb (oj := _) (by rfl) (by rfl) .here g27B ?_
        refine JL.val rfl (Run.fieldAddr (ft := 3) (foff := 1) (off := 1) @Try.underlying66 (by rfl) (@Try.sizeOf3 _) rfl rfl (.tmp (.there rfl (.there rfl (.there rfl (.there rfl (.there rfl .here))))))) ?_
        refine JL.gyesb (oj := _) (by rfl) (by rfl) (.there rfl .here) g27B ?_
        refine JL.val rfl (Run.loadB (@Try.isAgg3 _) (.tmp .here) Bb7 (by rfl)) ?_
        refine JL.gyesb (oj := _) (by rfl) (by rfl) (.there rfl (.there rfl .here)) g27B ?_
        refine JL.val rfl (Run.lss (.tmp .here) .const) ?_
        refine JL.val rfl (Run.pickT (.tmp (.there rfl (.there rfl (.there rfl .here)))) g27B (.tmp .here)) ?_
        refine JL.val rfl (Run.assign (.tmp .here)) ?_
        refine JL.nil ?_
        refine JE.keep (L := _) (.cons .here (.cons (.there rfl (.there rfl (.there rfl (.there rfl (.there rfl (.there rfl (.there rfl (.there rfl (.there rfl (.there rfl .here)))))))))) (.cons (.there rfl (.there rfl (.there rfl (.there rfl (.there rfl (.there rfl (.there rfl (.there rfl (.there rfl (.there rfl (.there rfl .here))))))))))) (.cons (.there rfl (.there rfl (.there rfl (.there rfl (.there rfl (.there rfl (.there rfl (.there rfl (.there rfl (.there rfl (.there rfl (.there rfl .here)))))))))))) (.cons (.there rfl (.there rfl (.there rfl (.there rfl (.there rfl (.there rfl (.there rfl (.there rfl (.there rfl (.there rfl (.there rfl (.there rfl (.there rfl .here))))))))))))) .nil))))) ?_
        refine JE.seq ?_
        refine JC.cond (.tmp .here) (fun h31 => ?_) (fun h31 => ?_)
        · have h31 := of_decide_eq_true h31
          refine JC.seq ?_
          refine JC.region ?_
          refine JL.val rfl (Run.build (places := #[(0, 1), (1, 1), (2, 1), (3, 1), (4, 1)]) (ps := []) @Try.underlying66 (@Try.zeroValue66 _) (by kernel_rfl) .nil) ?_
          refine JL.storeA (@Try.sizeOf66 _) (.tmp (.there rfl (.there rfl (.there rfl (.there rfl .here))))) (.tmp .here) (by rfl) (by rfl) Bb1 rfl ?_
          intro w18 hc19 hb20
          replace Bb7 := Bb7.ch hc19 (Nat.ne_of_gt lt_b1_b7)
          replace hK := hK.own hc19 ge_b1
          replace Bb1 := hb20; clear hb20
          refine JL.val rfl (Run.assign .const) ?_
          refine JL.nil ?_
          refine JE.seq ?_
          refine JC.ret ?_
          refine JE.ret_blk ?_
          refine JE.ret_seq ?_
          refine JE.retc2 @Try.results21 (.cell (.there rfl (.there rfl (.there rfl (.there rfl (.there rfl .here))))) (run_loadVar (@Try.isAgg66 _) (@Try.sizeOf66 _) Bb1 (Nat.le_of_ble_eq_true rfl))) (.tmp .here) ?_
          exact ⟨congrArg Ending.returned (by rw [readF_cons hKK, if_pos (by omega)]; rfl), hK⟩
        · have h31 := of_decide_eq_false h31
          refine JC.seq ?_
          refine JC.region ?_
          refine JL.val rfl (Run.move (.tmp (.there rfl (.there rfl (.there rfl (.there rfl .here)))))) ?_
          refine JL.val rfl (Run.len @Try.underlying53 (.tmp .here)) ?_
          refine JL.val rfl (Run.fieldAddr (ft := 3) (foff := 3) (off := 3) @Try.underlying66 (by rfl) (@Try.sizeOf3 _) rfl rfl (.tmp (.there rfl (.there rfl (.there rfl .here))))) ?_
          refine JL.val rfl (Run.loadB (@Try.isAgg3 _) (.tmp .here) Bb7 (by rfl)) ?_
          refine JL.val rfl (Run.lss (.tmp (.there rfl (.there rfl .here))) (.tmp .here)) ?_
          refine JL.val rfl (Run.assign (.tmp .here)) ?_
          refine JL.nil ?_
          refine JE.seq ?_
          refine JC.cond (.tmp .here) (fun hs => ?_) (fun hs => ?_)
          · have hs := of_decide_eq_true hs
            refine JC.seq ?_
            refine JC.region ?_
            refine JL.val rfl (Run.build (places := #[(0, 1), (1, 1), (2, 1), (3, 1), (4, 1)]) (ps := []) @Try.underlying66 (@Try.zeroValue66 _) (by kernel_rfl) .nil) ?_
            refine JL.storeA (@Try.sizeOf66 _) (.tmp (.there rfl (.there rfl (.there rfl (.there rfl (.there rfl (.there rfl (.there rfl (.there rfl (.there rfl (.there rfl .here))))))))))) (.tmp .here) (by rfl) (by rfl) Bb1 rfl ?_
            intro w21 hc22 hb23
            replace Bb7 := Bb7.ch hc22 (Nat.ne_of_gt lt_b1_b7)
            replace hK := hK.own hc22 ge_b1
            replace Bb1 := hb23; clear hb23
            refine JL.val rfl (Run.assign .const) ?_
            refine JL.nil ?_
            refine JE.keep (L := _) (.cons .here (.cons (.there rfl (.there rfl (.there rfl (.there rfl (.there rfl (.there rfl (.there rfl (.there rfl (.there rfl .here))))))))) (.cons (.there rfl (.there rfl (.there rfl (.there rfl (.there rfl (.there rfl (.there rfl (.there rfl (.there rfl (.there rfl (.there rfl .here))))))))))) (.cons (.there rfl (.there rfl (.there rfl (.there rfl (.there rfl (.there rfl (.there rfl (.there rfl (.there rfl (.there rfl (.there rfl (.there rfl .here)))))))))))) .nil)))) ?_
            refine JE.seq ?_
            refine JC.ret ?_
            refine JE.ret_blk ?_
            refine JE.ret_seq ?_
            refine JE.retc2 @Try.results21 (.cell (.there rfl (.there rfl .here)) (run_loadVar (@Try.isAgg66 _) (@Try.sizeOf66 _) Bb1 (Nat.le_of_ble_eq_true rfl))) (.tmp .here) ?_
            exact ⟨congrArg Ending.returned (by rw [readF_cons hKK, if_neg (by omega), if_pos (by omega)]; rfl), hK⟩
          · have hs := of_decide_eq_false hs
            refine JC.seq ?_
            refine JC.region ?_
            refine JL.val rfl (Run.fieldAddr (ft := 3) (foff := 1) (off := 1) @Try.underlying66 (by rfl) (@Try.sizeOf3 _) rfl rfl (.tmp (.there rfl (.there rfl (.there rfl (.there rfl (.there rfl (.there rfl (.there rfl .here))))))))) ?_
            refine JL.val rfl (Run.loadB (@Try.isAgg3 _) (.tmp .here) Bb7 (by rfl)) ?_
            refine JL.val rfl (Run.lss (.tmp .here) .const) ?_
            refine JL.val rfl (Run.assign (.tmp .here)) ?_
            refine JL.nil ?_
            refine JE.keep (L := _) (.cons .here (.cons (.there rfl (.there rfl (.there rfl (.there rfl (.there rfl (.there rfl (.there rfl (.there rfl (.there rfl (.there rfl (.there rfl .here))))))))))) (.cons (.there rfl (.there rfl (.there rfl (.there rfl (.there rfl (.there rfl (.there rfl (.there rfl (.there rfl (.there rfl (.there rfl (.there rfl .here)))))))))))) (.cons (.there rfl (.there rfl (.there rfl (.there rfl (.there rfl (.there rfl (.there rfl (.there rfl (.there rfl (.there rfl (.there rfl (.there rfl (.there rfl .here))))))))))))) (.cons (.there rfl (.there rfl (.there rfl (.there rfl (.there rfl (.there rfl (.there rfl (.there rfl (.there rfl (.there rfl (.there rfl (.there rfl (.there rfl (.there rfl .here)))))))))))))) .nil))))) ?_
            refine JE.seq ?_
            refine JC.cond (.tmp .here) (fun hi => ?_) (fun hi => ?_)
            · have hi := of_decide_eq_true hi
              refine JC.region ?_
              refine JL.val rfl (Run.fieldAddr (ft := 3) (foff := 1) (off := 1) @Try.underlying66 (by rfl) (@Try.sizeOf3 _) rfl rfl (.tmp (.there rfl .here))) ?_
              refine JL.val rfl (Run.loadB (@Try.isAgg3 _) (.tmp .here) Bb7 (by rfl)) ?_
              refine JL.val rfl (Run.conv @Try.underlying3 @Try.underlying50 (.tmp .here) (wrap_u64 (by omega))) ?_
              refine JL.val rfl (Run.fieldAddr (ft := 50) (foff := 2) (off := 2) @Try.underlying66 (by rfl) (@Try.sizeOf50 _) rfl rfl (.tmp (.there rfl (.there rfl (.there rfl (.there rfl .here)))))) ?_
              refine JL.storeB (@Try.sizeOf50 _) (.tmp .here) (.tmp (.there rfl .here)) (by rfl) (by rfl) Bb7 rfl ?_
              intro w24 hc25 hb26
              replace Bb1 := Bb1.ch hc25 (Nat.ne_of_lt lt_b1_b7)
              replace hK := hK.own hc25 ge_b7
              replace Bb7 := hb26; clear hb26
              refine JL.nil ?_
              refine JE.blk ?_
              exact JE.meet ((c.toNat : Int) % 32) (.cons (.there rfl (.there rfl (.there rfl (.there rfl (.there rfl (.there rfl (.there rfl (.there rfl .here)))))))) (.cons (.there rfl (.there rfl (.there rfl (.there rfl (.there rfl (.there rfl (.there rfl .here))))))) (.cons (.there rfl (.there rfl (.there rfl (.there rfl (.there rfl .here))))) .nil))) (⟨Bb7, Bb1, ⟨by omega, by omega⟩, by rw [if_pos hi], hK⟩)
            · have hi := of_decide_eq_false hi
              refine JC.skip ?_
              refine JE.blk ?_
              exact JE.meet 0 (.cons (.there rfl (.there rfl (.there rfl (.there rfl .here)))) (.cons (.there rfl (.there rfl (.there rfl .here))) (.cons (.there rfl .here) .nil))) (⟨Bb7, Bb1, ⟨by omega, by omega⟩, by rw [if_neg hi], hK⟩)
      · have g27 := of_decide_eq_false g27B
        refine JL.gnob rfl (oj := _) (by rfl) (by rfl) .here g27B ?_
        refine JL.gnob rfl (oj := _) (by rfl) (by rfl) (.there rfl .here) g27B ?_
        refine JL.gnob rfl (oj := _) (by rfl) (by rfl) (.there rfl (.there rfl .here)) g27B ?_
        refine JL.val rfl (Run.pickF (.tmp (.there rfl (.there rfl (.there rfl .here)))) g27B .const) ?_
        refine JL.val rfl (Run.assign (.tmp .here)) ?_
        refine JL.nil ?_
        refine JE.keep (L := _) (.cons .here (.cons (.there rfl (.there rfl (.there rfl (.there rfl (.there rfl (.there rfl (.there rfl (.there rfl (.there rfl (.there rfl .here)))))))))) (.cons (.there rfl (.there rfl (.there rfl (.there rfl (.there rfl (.there rfl (.there rfl (.there rfl (.there rfl (.there rfl (.there rfl .here))))))))))) (.cons (.there rfl (.there rfl (.there rfl (.there rfl (.there rfl (.there rfl (.there rfl (.there rfl (.there rfl (.there rfl (.there rfl (.there rfl .here)))))))))))) (.cons (.there rfl (.there rfl (.there rfl (.there rfl (.there rfl (.there rfl (.there rfl (.there rfl (.there rfl (.there rfl (.there rfl (.there rfl (.there rfl .here))))))))))))) .nil))))) ?_
        refine JE.seq ?_
        refine JC.condF (.tmp .here) (rfl) ?_
        refine JC.seq ?_
        refine JC.region ?_
        refine JL.val rfl (Run.move (.tmp (.there rfl (.there rfl (.there rfl (.there rfl .here)))))) ?_
        refine JL.val rfl (Run.len @Try.underlying53 (.tmp .here)) ?_
        refine JL.val rfl (Run.fieldAddr (ft := 3) (foff := 3) (off := 3) @Try.underlying66 (by rfl) (@Try.sizeOf3 _) rfl rfl (.tmp (.there rfl (.there rfl (.there rfl .here))))) ?_
        refine JL.val rfl (Run.loadB (@Try.isAgg3 _) (.tmp .here) Bb7 (by rfl)) ?_
        refine JL.val rfl (Run.lss (.tmp (.there rfl (.there rfl .here))) (.tmp .here)) ?_
        refine JL.val rfl (Run.assign (.tmp .here)) ?_
        refine JL.nil ?_
        refine JE.seq ?_
        refine JC.cond (.tmp .here) (fun hs => ?_) (fun hs => ?_)
        · have hs := of_decide_eq_true hs
          refine JC.seq ?_
          refine JC.region ?_
          refine JL.val rfl (Run.build (places := #[(0, 1), (1, 1), (2, 1), (3, 1), (4, 1)]) (ps := []) @Try.underlying66 (@Try.zeroValue66 _) (by kernel_rfl) .nil) ?_
          refine JL.storeA (@Try.sizeOf66 _) (.tmp (.there rfl (.there rfl (.there rfl (.there rfl (.there rfl (.there rfl (.there rfl (.there rfl (.there rfl (.there rfl .here))))))))))) (.tmp .here) (by rfl) (by rfl) Bb1 rfl ?_
          intro w27 hc28 hb29
          replace Bb7 := Bb7.ch hc28 (Nat.ne_of_gt lt_b1_b7)
          replace hK := hK.own hc28 ge_b1
          replace Bb1 := hb29; clear hb29
          refine JL.val rfl (Run.assign .const) ?_
          refine JL.nil ?_
          refine JE.keep (L := _) (.cons .here (.cons (.there rfl (.there rfl (.there rfl (.there rfl (.there rfl (.there rfl (.there rfl (.there rfl (.there rfl .here))))))))) (.cons (.there rfl (.there rfl (.there rfl (.there rfl (.there rfl (.there rfl (.there rfl (.there rfl (.there rfl (.there rfl (.there rfl .here))))))))))) (.cons (.there rfl (.there rfl (.there rfl (.there rfl (.there rfl (.there rfl (.there rfl (.there rfl (.there rfl (.there rfl (.there rfl (.there rfl .here)))))))))))) .nil)))) ?_
          refine JE.seq ?_
          refine JC.ret ?_
          refine JE.ret_blk ?_
          refine JE.ret_seq ?_
          refine JE.retc2 @Try.results21 (.cell (.there rfl (.there rfl .here)) (run_loadVar (@Try.isAgg66 _) (@Try.sizeOf66 _) Bb1 (Nat.le_of_ble_eq_true rfl))) (.tmp .here) ?_
          exact ⟨congrArg Ending.returned (by rw [readF_cons hKK, if_neg (by omega), if_pos (by omega)]; rfl), hK⟩
        · have hs := of_decide_eq_false hs
          refine JC.seq ?_
          refine JC.region ?_
          refine JL.val rfl (Run.fieldAddr (ft := 3) (foff := 1) (off := 1) @Try.underlying66 (by rfl) (@Try.sizeOf3 _) rfl rfl (.tmp (.there rfl (.there rfl (.there rfl (.there rfl (.there rfl (.there rfl (.there rfl .here))))))))) ?_
          refine JL.val rfl (Run.loadB (@Try.isAgg3 _) (.tmp .here) Bb7 (by rfl)) ?_
          refine JL.val rfl (Run.lss (.tmp .here) .const) ?_
          refine JL.val rfl (Run.assign (.tmp .here)) ?_
          refine JL.nil ?_
          refine JE.keep (L := _) (.cons .here (.cons (.there rfl (.there rfl (.there rfl (.there rfl (.there rfl (.there rfl (.there rfl (.there rfl (.there rfl (.there rfl (.there rfl .here))))))))))) (.cons (.there rfl (.there rfl (.there rfl (.there rfl (.there rfl (.there rfl (.there rfl (.there rfl (.there rfl (.there rfl (.there rfl (.there rfl .here)))))))))))) (.cons (.there rfl (.there rfl (.there rfl (.there rfl (.there rfl (.there rfl (.there rfl (.there rfl (.there rfl (.there rfl (.there rfl (.there rfl (.there rfl .here))))))))))))) (.cons (.there rfl (.there rfl (.there rfl (.there rfl (.there rfl (.there rfl (.there rfl (.there rfl (.there rfl (.there rfl (.there rfl (.there rfl (.there rfl (.there rfl .here)))))))))))))) .nil))))) ?_
          refine JE.seq ?_
          refine JC.cond (.tmp .here) (fun hi => ?_) (fun hi => ?_)
          · have hi := of_decide_eq_true hi
            refine JC.region ?_
            refine JL.val rfl (Run.fieldAddr (ft := 3) (foff := 1) (off := 1) @Try.underlying66 (by rfl) (@Try.sizeOf3 _) rfl rfl (.tmp (.there rfl .here))) ?_
            refine JL.val rfl (Run.loadB (@Try.isAgg3 _) (.tmp .here) Bb7 (by rfl)) ?_
            refine JL.val rfl (Run.conv @Try.underlying3 @Try.underlying50 (.tmp .here) (wrap_u64 (by omega))) ?_
            refine JL.val rfl (Run.fieldAddr (ft := 50) (foff := 2) (off := 2) @Try.underlying66 (by rfl) (@Try.sizeOf50 _) rfl rfl (.tmp (.there rfl (.there rfl (.there rfl (.there rfl .here)))))) ?_
            refine JL.storeB (@Try.sizeOf50 _) (.tmp .here) (.tmp (.there rfl .here)) (by rfl) (by rfl) Bb7 rfl ?_
            intro w30 hc31 hb32
            replace Bb1 := Bb1.ch hc31 (Nat.ne_of_lt lt_b1_b7)
            replace hK := hK.own hc31 ge_b7
            replace Bb7 := hb32; clear hb32
            refine JL.nil ?_
            refine JE.blk ?_
            exact JE.meet ((c.toNat : Int) % 32) (.cons (.there rfl (.there rfl (.there rfl (.there rfl (.there rfl (.there rfl (.there rfl (.there rfl .here)))))))) (.cons (.there rfl (.there rfl (.there rfl (.there rfl (.there rfl (.there rfl (.there rfl .here))))))) (.cons (.there rfl (.there rfl (.there rfl (.there rfl (.there rfl .here))))) .nil))) (⟨Bb7, Bb1, ⟨by omega, by omega⟩, by rw [if_pos hi], hK⟩)
          · have hi := of_decide_eq_false hi
            refine JC.skip ?_
            refine JE.blk ?_
            exact JE.meet 0 (.cons (.there rfl (.there rfl (.there rfl (.there rfl .here)))) (.cons (.there rfl (.there rfl (.there rfl .here))) (.cons (.there rfl .here) .nil))) (⟨Bb7, Bb1, ⟨by omega, by omega⟩, by rw [if_neg hi], hK⟩)
  · rintro N w17 ⟨Bb7, Bb1, hg, hN, hK⟩
    show JC _ _ _ _ _ [(0, .slice (some ⟨b, o, none⟩) (c :: r).length cap), (2, .pointer (some ⟨b1, 0, none⟩)), (4, .pointer (some ⟨b7, 0, none⟩))] _
    obtain ⟨hg1, hg2⟩ := hg
    subst hN
    refine JC.seq ?_
    refine JC.seq ?_
    refine JC.region ?_
    refine JL.val rfl (Run.move (.tmp .here)) ?_
    refine JL.val rfl (Run.fieldAddr (ft := 3) (foff := 3) (off := 3) @Try.underlying66 (by rfl) (@Try.sizeOf3 _) rfl rfl (.tmp (.there rfl (.there rfl (.there rfl .here))))) ?_
    refine JL.val rfl (Run.loadB (@Try.isAgg3 _) (.tmp .here) Bb7 (by rfl)) ?_
    refine JL.sliceS (L := 1) (H := 1 + K) (M := cap) rfl @Try.underlying53 (@Try.sizeOf5 _) (.tmp (.there rfl (.there rfl .here))) (fun a ha => by simp only [Option.map, (show Ev _ _ _ from .const).eq ha, (show Ev _ _ _ from (.tmp .here)).eq ha]; exact bounds_lh (by rfl) (by omega) (by omega) (by omega)) (by omega) ?_
    intro o1 ho1
    refine JL.val rfl (Run.len @Try.underlying53 (.tmp .here)) ?_
    refine JL.val rfl (Run.move .const) ?_
    refine JL.nil ?_
    refine JE.seq ?_
    refine JC.block ?_
    refine JC.loop (α := Nat) (fun k => [(2, .pointer (some ⟨b1, 0, none⟩)), (4, .pointer (some ⟨b7, 0, none⟩)), (68, .slice (some ⟨b, o1, none⟩) (1 + K - 1) (cap - 1)), (69, .int .i64 ((1 + K - 1 : Nat) : Int)), (70, .int .i64 (k : Int))]) (fun k w => k ≤ K ∧ Blk w b7 66 [.int .i64 ((c.toNat : Int) / 32), .int .i64 ((c.toNat : Int) % 32), .int .u64 ((if (c.toNat : Int) % 32 < 24 then (c.toNat : Int) % 32 else be (r.take k))), .int .i64 (1 + behindI ((c.toNat : Int) % 32)), .bool false] ∧ Blk w b1 66 [.int .i64 0, .int .i64 0, .int .u64 0, .int .i64 0, .bool false] ∧ Ch No w0 w) (fun k => K - k) 0 ⟨Nat.zero_le _, Bb7, Bb1, hK⟩ (.cons (.there rfl (.there rfl (.there rfl (.there rfl (.there rfl (.there rfl (.there rfl .here))))))) (.cons (.there rfl (.there rfl (.there rfl (.there rfl (.there rfl (.there rfl (.there rfl (.there rfl .here)))))))) (.cons (.there rfl (.there rfl .here)) (.cons (.there rfl .here) (.conse .here (rfl) .nil))))) ?_
    rintro k w54 m55 ⟨hk, Bb7, Bb1, hK⟩ hmu56
    show JC _ _ _ _ _ [(2, .pointer (some ⟨b1, 0, none⟩)), (4, .pointer (some ⟨b7, 0, none⟩)), (68, .slice (some ⟨b, o1, none⟩) (1 + K - 1) (cap - 1)), (69, .int .i64 ((1 + K - 1 : Nat) : Int)), (70, .int .i64 (k : Int))] _
    refine JC.seq ?_
    refine JC.region ?_
    refine JL.val rfl (Run.lss (.tmp (.there rfl (.there rfl (.there rfl (.there rfl .here))))) (.tmp (.there rfl (.there rfl (.there rfl .here))))) ?_
    refine JL.nil ?_
    refine JE.seq ?_
    refine JC.seq ?_
    refine JC.cond (.tmp .here) (fun hlt => ?_) (fun hlt => ?_)
    · have hlt := of_decide_eq_true hlt
      have hkK : k < K := by omega
      have hp := behind_pos (i := (c.toNat : Int) % 32) (by omega)
      obtain ⟨hp1, hp2⟩ := hp
      have hI : ¬ ((c.toNat : Int) % 32 < 24) := by omega
      rw [if_neg hI] at Bb7
      have hrl : k < r.length := by omega
      have hbe := be_bd7 (l := r.take k) (by simp; omega)
      obtain ⟨hbe0, hbe1⟩ := hbe
      have hcc := bv_lt r[k]
      obtain ⟨hcc0, hcc1⟩ := hcc
      have hcell : w54.cell? ⟨b, o1 + k * 1, none⟩ = some (.int .u8 (r[k].toNat : Int)) := (hb.no hK) (1 + k) _ (by rw [Nat.add_comm]; simp) |> fun h => by rw [show o1 + k * 1 = o + (1 + k) from by have := ho1 (by omega); omega]; exact h
      refine JC.skip ?_
      refine JE.seq ?_
      refine JC.seq ?_
      refine JC.block ?_
      refine JC.seq ?_
      refine JC.region ?_
      refine JL.val rfl (Run.indexAddr (m := k) @Try.underlying53 (@Try.sizeOf5 _) (.tmp (.there rfl (.there rfl (.there rfl .here)))) (.tmp (.there rfl (.there rfl (.there rfl (.there rfl (.there rfl .here)))))) (rfl) (by omega) rfl) ?_
      refine JL.val rfl (Run.load (@Try.isAgg5 _) (.tmp .here) (by first | exact hcell)) ?_
      refine JL.val rfl (Run.assign (.tmp .here)) ?_
      refine JL.nil ?_
      refine JE.seq ?_
      refine JC.region ?_
      refine JL.val rfl (Run.fieldAddr (ft := 50) (foff := 2) (off := 2) @Try.underlying66 (by rfl) (@Try.sizeOf50 _) rfl rfl (.tmp (.there rfl (.there rfl (.there rfl (.there rfl (.there rfl .here))))))) ?_
      refine JL.val rfl (Run.loadB (@Try.isAgg50 _) (.tmp .here) Bb7 (by rfl)) ?_
      refine JL.val rfl (Run.shl (m := 256) (.tmp .here) .const (by decide) (by decide) (wrap_u64 (by omega))) ?_
      refine JL.val rfl (Run.move (.tmp (.there rfl (.there rfl (.there rfl .here))))) ?_
      refine JL.val rfl (Run.conv @Try.underlying5 @Try.underlying50 (.tmp .here) (wrap_u64 (by omega))) ?_
      refine JL.val rfl (Run.bitop (.tmp (.there rfl (.there rfl .here))) (.tmp .here) (by simp) (or_u64 8 (by omega) (by omega) (by omega) (by omega) (by omega) (by omega))) ?_
      refine JL.val rfl (Run.fieldAddr (ft := 50) (foff := 2) (off := 2) @Try.underlying66 (by rfl) (@Try.sizeOf50 _) rfl rfl (.tmp (.there rfl (.there rfl (.there rfl (.there rfl (.there rfl (.there rfl (.there rfl (.there rfl (.there rfl (.there rfl (.there rfl .here))))))))))))) ?_
      refine JL.storeB (@Try.sizeOf50 _) (.tmp .here) (.tmp (.there rfl .here)) (by rfl) (by rfl) Bb7 rfl ?_
      intro w57 hc58 hb59
      replace Bb1 := Bb1.ch hc58 (Nat.ne_of_lt lt_b1_b7)
      replace hK := hK.own hc58 ge_b7
      replace Bb7 := hb59; clear hb59
      refine JL.nil ?_
      refine JE.blk ?_
      refine JE.seq ?_
      refine JC.region ?_
      refine JL.val rfl (Run.add (.tmp (.there rfl (.there rfl (.there rfl (.there rfl (.there rfl (.there rfl (.there rfl (.there rfl (.there rfl (.there rfl (.there rfl (.there rfl (.there rfl (.there rfl (.there rfl .here)))))))))))))))) .const (wrap_i64 (by omega))) ?_
      refine JL.val rfl (Run.move (.tmp .here)) ?_
      refine JL.nil ?_
      exact JE.again (k + 1) (.cons (.there rfl (.there rfl (.there rfl (.there rfl (.there rfl (.there rfl (.there rfl (.there rfl (.there rfl (.there rfl (.there rfl (.there rfl (.there rfl .here))))))))))))) (.cons (.there rfl (.there rfl (.there rfl (.there rfl (.there rfl (.there rfl (.there rfl (.there rfl (.there rfl (.there rfl (.there rfl (.there rfl (.there rfl (.there rfl .here)))))))))))))) (.cons (.there rfl (.there rfl (.there rfl (.there rfl (.there rfl (.there rfl (.there rfl (.there rfl (.there rfl (.there rfl (.there rfl (.there rfl (.there rfl (.there rfl (.there rfl .here))))))))))))))) (.cons (.there rfl (.there rfl (.there rfl (.there rfl (.there rfl (.there rfl (.there rfl (.there rfl (.there rfl (.there rfl (.there rfl (.there rfl (.there rfl (.there rfl (.there rfl (.there rfl .here)))))))))))))))) (.conse .here (rfl) .nil))))) (⟨by omega, by rw [if_neg hI, be_take hrl]; exact Bb7, Bb1, hK⟩) (by simp only [hmu56]; omega)
    · have hlt := of_decide_eq_false hlt
      obtain rfl : k = K := by omega
      have hN0 : 0 ≤ (if (c.toNat : Int) % 32 < 24 then (c.toNat : Int) % 32 else be (r.take k)) := by split <;> first | omega | exact (be_bd _).1
      obtain ⟨N, hN⟩ : ∃ N, N = (if (c.toNat : Int) % 32 < 24 then (c.toNat : Int) % 32 else be (r.take k)) := ⟨_, rfl⟩
      rw [← hN] at Bb7 hN0
      refine JC.exit ?_
      refine JE.exit_seq ?_
      refine JE.exit_seq ?_
      refine JE.exit_here ?_
      refine JE.seq ?_
      refine JC.seq ?_
      refine JC.seq ?_
      refine JC.region ?_
      refine JL.val rfl (Run.fieldAddr (ft := 3) (foff := 0) (off := 0) @Try.underlying66 (by rfl) (@Try.sizeOf3 _) rfl rfl (.tmp (.there rfl (.there rfl .here)))) ?_
      refine JL.val rfl (Run.loadB (@Try.isAgg3 _) (.tmp .here) Bb7 (by rfl)) ?_
      refine JL.val rfl (Run.eql (.tmp .here) .const) ?_
      refine JL.val rfl (Run.move (.tmp .here)) ?_
      refine JL.gsplit (dj := 85) (want := true) .here (fun g7B => ?_) (fun g7B => ?_)
      · have g7 : (c.toNat : Int) / 32 = 7 := eq_of_beq g7B
        refine JL.gyesb (oj := _) (by rfl) (by rfl) .here g7B ?_
        refine JL.val rfl (Run.fieldAddr (ft := 3) (foff := 1) (off := 1) @Try.underlying66 (by rfl) (@Try.sizeOf3 _) rfl rfl (.tmp (.there rfl (.there rfl (.there rfl (.there rfl (.there rfl (.there rfl .here)))))))) ?_
        refine JL.gyesb (oj := _) (by rfl) (by rfl) (.there rfl .here) g7B ?_
        refine JL.val rfl (Run.loadB (@Try.isAgg3 _) (.tmp .here) Bb7 (by rfl)) ?_
        refine JL.gyesb (oj := _) (by rfl) (by rfl) (.there rfl (.there rfl .here)) g7B ?_
        refine JL.val rfl (Run.eql (.tmp .here) .const) ?_
        refine JL.val rfl (Run.pickT (.tmp (.there rfl (.there rfl (.there rfl .here)))) g7B (.tmp .here)) ?_
        refine JL.val rfl (Run.move (.tmp .here)) ?_
        refine JL.gsplit (dj := 90) (want := true) .here (fun g24B => ?_) (fun g24B => ?_)
        · have g24 : (c.toNat : Int) % 32 = 24 := eq_of_beq g24B
          refine JL.gyesb (oj := _) (by rfl) (by rfl) .here g24B ?_
          refine JL.val rfl (Run.fieldAddr (ft := 50) (foff := 2) (off := 2) @Try.underlying66 (by rfl) (@Try.sizeOf50 _) rfl rfl (.tmp (.there rfl (.there rfl (.there rfl (.there rfl (.there rfl (.there rfl (.there rfl (.there rfl (.there rfl (.there rfl (.there rfl .here))))))))))))) ?_
          refine JL.gyesb (oj := _) (by rfl) (by rfl) (.there rfl .here) g24B ?_
          refine JL.val rfl (Run.loadB (@Try.isAgg50 _) (.tmp .here) Bb7 (by rfl)) ?_
          refine JL.gyesb (oj := _) (by rfl) (by rfl) (.there rfl (.there rfl .here)) g24B ?_
          refine JL.val rfl (Run.lss (.tmp .here) .const) ?_
          refine JL.val rfl (Run.pickT (.tmp (.there rfl (.there rfl (.there rfl .here)))) g24B (.tmp .here)) ?_
          refine JL.nil ?_
          refine JE.keep (L := _) (.cons .here (.cons (.there rfl (.there rfl (.there rfl (.there rfl (.there rfl (.there rfl (.there rfl (.there rfl (.there rfl (.there rfl (.there rfl (.there rfl (.there rfl (.there rfl .here)))))))))))))) (.cons (.there rfl (.there rfl (.there rfl (.there rfl (.there rfl (.there rfl (.there rfl (.there rfl (.there rfl (.there rfl (.there rfl (.there rfl (.there rfl (.there rfl (.there rfl .here))))))))))))))) .nil))) ?_
          refine JE.seq ?_
          refine JC.cond (.tmp .here) (fun g32 => ?_) (fun g32 => ?_)
          · have g32 := of_decide_eq_true g32
            refine JC.seq ?_
            refine JC.region ?_
            refine JL.val rfl (Run.build (places := #[(0, 1), (1, 1), (2, 1), (3, 1), (4, 1)]) (ps := []) @Try.underlying66 (@Try.zeroValue66 _) (by kernel_rfl) .nil) ?_
            refine JL.storeA (@Try.sizeOf66 _) (.tmp (.there rfl (.there rfl .here))) (.tmp .here) (by rfl) (by rfl) Bb1 rfl ?_
            intro w100 hc101 hb102
            replace Bb7 := Bb7.ch hc101 (Nat.ne_of_gt lt_b1_b7)
            replace hK := hK.own hc101 ge_b1
            replace Bb1 := hb102; clear hb102
            refine JL.val rfl (Run.assign .const) ?_
            refine JL.nil ?_
            refine JE.seq ?_
            refine JC.ret ?_
            refine JE.ret_seq ?_
            refine JE.retc2 @Try.results21 (.cell (.there rfl (.there rfl (.there rfl .here))) (run_loadVar (@Try.isAgg66 _) (@Try.sizeOf66 _) Bb1 (Nat.le_of_ble_eq_true rfl))) (.tmp .here) ?_
            refine ⟨congrArg Ending.returned ?_, hK⟩
            rw [readF_cons hKK, if_neg hg1, if_neg hg2, ← hN, if_pos ⟨g7, g24, g32⟩]
            rfl
          · have g32 := of_decide_eq_false g32
            have h3 : ¬ ((c.toNat : Int) / 32 = 7 ∧ (c.toNat : Int) % 32 = 24 ∧ N < 32) := fun h => g32 h.2.2
            refine JC.skip ?_
            refine JE.seq ?_
            refine JC.seq ?_
            refine JC.drawnc (m := 17) mixed (by kernel_rfl) ?_
            intro w103 hd104
            replace Bb1 := Bb1.no hd104
            replace Bb7 := Bb7.no hd104
            replace hK := hK.no hd104
            refine JS.val rfl (Run.fieldAddr (ft := 3) (foff := 1) (off := 1) @Try.underlying66 (by rfl) (@Try.sizeOf3 _) rfl rfl (.tmp (.there rfl (.there rfl .here)))) ?_
            refine JS.val rfl (Run.loadB (@Try.isAgg3 _) (.tmp .here) Bb7 (by rfl)) ?_
            refine JS.val rfl (Run.eql (.tmp .here) .const) ?_
            refine JS.val rfl (Run.move (.tmp .here)) ?_
            refine JS.gsplit (dj := 99) (want := false) .here (fun k31B => ?_) (fun k31B => ?_)
            · have k31 : ¬ (c.toNat : Int) % 32 = 31 := ne_of_beq_false k31B
              refine JS.gyesb (oj := _) (by rfl) (by rfl) .here k31B ?_
              refine JS.val rfl (Run.fieldAddr (ft := 3) (foff := 0) (off := 0) @Try.underlying66 (by rfl) (@Try.sizeOf3 _) rfl rfl (.tmp (.there rfl (.there rfl (.there rfl (.there rfl (.there rfl (.there rfl .here)))))))) ?_
              refine JS.gyesb (oj := _) (by rfl) (by rfl) (.there rfl .here) k31B ?_
              refine JS.val rfl (Run.loadB (@Try.isAgg3 _) (.tmp .here) Bb7 (by rfl)) ?_
              refine JS.gyesb (oj := _) (by rfl) (by rfl) (.there rfl (.there rfl .here)) k31B ?_
              refine JS.val rfl (Run.eql (.tmp .here) .const) ?_
              refine JS.val rfl (Run.pickF (.tmp (.there rfl (.there rfl (.there rfl .here)))) k31B (.tmp .here)) ?_
              refine JS.val rfl (Run.move (.tmp .here)) ?_
              refine JS.gsplit (dj := 104) (want := false) .here (fun k7B => ?_) (fun k7B => ?_)
              · have k7 : ¬ (c.toNat : Int) / 32 = 7 := ne_of_beq_false k7B
                refine JS.gyesb (oj := _) (by rfl) (by rfl) .here k7B ?_
                refine JS.val rfl (Run.fieldAddr (ft := 3) (foff := 3) (off := 3) @Try.underlying66 (by rfl) (@Try.sizeOf3 _) rfl rfl (.tmp (.there rfl (.there rfl (.there rfl (.there rfl (.there rfl (.there rfl (.there rfl (.there rfl (.there rfl (.there rfl (.there rfl .here))))))))))))) ?_
                refine JS.gyesb (oj := _) (by rfl) (by rfl) (.there rfl .here) k7B ?_
                refine JS.val rfl (Run.loadB (@Try.isAgg3 _) (.tmp .here) Bb7 (by rfl)) ?_
                refine JS.gyesb (oj := _) (by rfl) (by rfl) (.there rfl (.there rfl .here)) k7B ?_
                refine JS.val rfl (Run.fieldAddr (ft := 50) (foff := 2) (off := 2) @Try.underlying66 (by rfl) (@Try.sizeOf50 _) rfl rfl (.tmp (.there rfl (.there rfl (.there rfl (.there rfl (.there rfl (.there rfl (.there rfl (.there rfl (.there rfl (.there rfl (.there rfl (.there rfl (.there rfl .here))))))))))))))) ?_
                refine JS.gyesb (oj := _) (by rfl) (by rfl) (.there rfl (.there rfl (.there rfl .here))) k7B ?_
                refine JS.val rfl (Run.loadB (@Try.isAgg50 _) (.tmp .here) Bb7 (by rfl)) ?_
                refine JS.gyesb (oj := _) (by rfl) (by rfl) (.there rfl (.there rfl (.there rfl (.there rfl .here)))) k7B ?_
                refine JS.call rfl (Run.call @Try.call8 (.cons (.tmp .here) .nil)) (size_any N hN0 _) ?_
                refine JS.gyesb (oj := _) (by rfl) (by rfl) (.there rfl (.there rfl (.there rfl (.there rfl (.there rfl .here))))) k7B ?_
                refine JS.val rfl (Run.eql (.tmp (.there rfl (.there rfl (.there rfl .here)))) (.tmp .here)) ?_
                refine JS.val rfl (Run.pickF (.tmp (.there rfl (.there rfl (.there rfl (.there rfl (.there rfl (.there rfl .here))))))) k7B (.tmp .here)) ?_
                refine JS.val rfl (Run.fieldAddr (ft := 4) (foff := 4) (off := 4) @Try.underlying66 (by rfl) (@Try.sizeOf4 _) rfl rfl (.tmp (.there rfl (.there rfl (.there rfl (.there rfl (.there rfl (.there rfl (.there rfl (.there rfl (.there rfl (.there rfl (.there rfl (.there rfl (.there rfl (.there rfl (.there rfl (.there rfl (.there rfl (.there rfl .here)))))))))))))))))))) ?_
                refine JS.tail ?_
                refine JL.storeB (@Try.sizeOf4 _) (.tmp .here) (.tmp (.there rfl .here)) (by rfl) (by rfl) Bb7 rfl ?_
                intro w117 hc118 hb119
                replace Bb1 := Bb1.ch hc118 (Nat.ne_of_lt lt_b1_b7)
                replace hK := hK.own hc118 ge_b7
                replace Bb7 := hb119; clear hb119
                refine JL.nil ?_
                refine JE.keep (L := _) (.cons (.there rfl (.there rfl (.there rfl (.there rfl (.there rfl (.there rfl (.there rfl (.there rfl (.there rfl (.there rfl (.there rfl (.there rfl (.there rfl (.there rfl (.there rfl (.there rfl (.there rfl (.there rfl .here)))))))))))))))))) (.cons (.there rfl (.there rfl (.there rfl (.there rfl (.there rfl (.there rfl (.there rfl (.there rfl (.there rfl (.there rfl (.there rfl (.there rfl (.there rfl (.there rfl (.there rfl (.there rfl (.there rfl (.there rfl (.there rfl .here))))))))))))))))))) .nil)) ?_
                refine JE.seq ?_
                refine JC.seq ?_
                refine JC.region ?_
                refine JL.val rfl (Run.loadA (@Try.isAgg66 _) (@Try.sizeOf66 _) (.tmp (.there rfl .here)) Bb7 rfl) ?_
                refine JL.storeA (@Try.sizeOf66 _) (.tmp (.there rfl .here)) (.tmp .here) (by rfl) (by rfl) Bb1 rfl ?_
                intro w120 hc121 hb122
                replace Bb7 := Bb7.ch hc121 (Nat.ne_of_gt lt_b1_b7)
                replace hK := hK.own hc121 ge_b1
                replace Bb1 := hb122; clear hb122
                refine JL.val rfl (Run.assign .const) ?_
                refine JL.nil ?_
                refine JE.seq ?_
                refine JC.ret ?_
                refine JE.retc2 @Try.results21 (.cell (.there rfl (.there rfl .here)) (run_loadVar (@Try.isAgg66 _) (@Try.sizeOf66 _) Bb1 (Nat.le_of_ble_eq_true rfl))) (.tmp .here) ?_
                refine ⟨congrArg Ending.returned ?_, hK⟩
                rw [readF_cons hKK, if_neg hg1, if_neg hg2, ← hN, if_neg h3]
                rw [show decide ((c.toNat : Int) % 32 = 31 ∨ (c.toNat : Int) / 32 = 7 ∨ 1 + behindI ((c.toNat : Int) % 32) = sizeI N) = (1 + behindI ((c.toNat : Int) % 32) == sizeI N) from (by rw [Bool.eq_iff_iff, decide_eq_true_iff, beq_iff_eq]; exact ⟨fun h => h.elim (absurd · k31) (fun h => h.elim (absurd · k7) id), fun h => .inr (.inr h)⟩)]; rfl
              · have k7 : (c.toNat : Int) / 32 = 7 := eq_of_beq k7B
                refine JS.gnob rfl (oj := _) (by rfl) (by rfl) .here k7B ?_
                refine JS.gnob rfl (oj := _) (by rfl) (by rfl) (.there rfl .here) k7B ?_
                refine JS.gnob rfl (oj := _) (by rfl) (by rfl) (.there rfl (.there rfl .here)) k7B ?_
                refine JS.gnob rfl (oj := _) (by rfl) (by rfl) (.there rfl (.there rfl (.there rfl .here))) k7B ?_
                refine JS.gnob rfl (oj := _) (by rfl) (by rfl) (.there rfl (.there rfl (.there rfl (.there rfl .here)))) k7B ?_
                refine JS.gnob rfl (oj := _) (by rfl) (by rfl) (.there rfl (.there rfl (.there rfl (.there rfl (.there rfl .here))))) k7B ?_
                refine JS.val rfl (Run.pickT (.tmp (.there rfl (.there rfl (.there rfl (.there rfl (.there rfl (.there rfl .here))))))) k7B .const) ?_
                refine JS.val rfl (Run.fieldAddr (ft := 4) (foff := 4) (off := 4) @Try.underlying66 (by rfl) (@Try.sizeOf4 _) rfl rfl (.tmp (.there rfl (.there rfl (.there rfl (.there rfl (.there rfl (.there rfl (.there rfl (.there rfl (.there rfl (.there rfl (.there rfl (.there rfl (.there rfl (.there rfl (.there rfl (.there rfl (.there rfl (.there rfl .here)))))))))))))))))))) ?_
                refine JS.tail ?_
                refine JL.storeB (@Try.sizeOf4 _) (.tmp .here) (.tmp (.there rfl .here)) (by rfl) (by rfl) Bb7 rfl ?_
                intro w111 hc112 hb113
                replace Bb1 := Bb1.ch hc112 (Nat.ne_of_lt lt_b1_b7)
                replace hK := hK.own hc112 ge_b7
                replace Bb7 := hb113; clear hb113
                refine JL.nil ?_
                refine JE.keep (L := _) (.cons (.there rfl (.there rfl (.there rfl (.there rfl (.there rfl (.there rfl (.there rfl (.there rfl (.there rfl (.there rfl (.there rfl (.there rfl (.there rfl (.there rfl (.there rfl (.there rfl (.there rfl (.there rfl .here)))))))))))))))))) (.cons (.there rfl (.there rfl (.there rfl (.there rfl (.there rfl (.there rfl (.there rfl (.there rfl (.there rfl (.there rfl (.there rfl (.there rfl (.there rfl (.there rfl (.there rfl (.there rfl (.there rfl (.there rfl (.there rfl .here))))))))))))))))))) .nil)) ?_
                refine JE.seq ?_
                refine JC.seq ?_
                refine JC.region ?_
                refine JL.val rfl (Run.loadA (@Try.isAgg66 _) (@Try.sizeOf66 _) (.tmp (.there rfl .here)) Bb7 rfl) ?_
                refine JL.storeA (@Try.sizeOf66 _) (.tmp (.there rfl .here)) (.tmp .here) (by rfl) (by rfl) Bb1 rfl ?_
                intro w114 hc115 hb116
                replace Bb7 := Bb7.ch hc115 (Nat.ne_of_gt lt_b1_b7)
                replace hK := hK.own hc115 ge_b1
                replace Bb1 := hb116; clear hb116
                refine JL.val rfl (Run.assign .const) ?_
                refine JL.nil ?_
                refine JE.seq ?_
                refine JC.ret ?_
                refine JE.retc2 @Try.results21 (.cell (.there rfl (.there rfl .here)) (run_loadVar (@Try.isAgg66 _) (@Try.sizeOf66 _) Bb1 (Nat.le_of_ble_eq_true rfl))) (.tmp .here) ?_
                refine ⟨congrArg Ending.returned ?_, hK⟩
                rw [readF_cons hKK, if_neg hg1, if_neg hg2, ← hN, if_neg h3]
                rw [decide_eq_true (.inr (.inl k7))]; rfl
            · have k31 : (c.toNat : Int) % 32 = 31 := eq_of_beq k31B
              refine JS.gnob rfl (oj := _) (by rfl) (by rfl) .here k31B ?_
              refine JS.gnob rfl (oj := _) (by rfl) (by rfl) (.there rfl .here) k31B ?_
              refine JS.gnob rfl (oj := _) (by rfl) (by rfl) (.there rfl (.there rfl .here)) k31B ?_
              refine JS.val rfl (Run.pickT (.tmp (.there rfl (.there rfl (.there rfl .here)))) k31B .const) ?_
              refine JS.val rfl (Run.move (.tmp .here)) ?_
              refine JS.gnob rfl (oj := _) (by rfl) (by rfl) .here rfl ?_
              refine JS.gnob rfl (oj := _) (by rfl) (by rfl) (.there rfl .here) rfl ?_
              refine JS.gnob rfl (oj := _) (by rfl) (by rfl) (.there rfl (.there rfl .here)) rfl ?_
              refine JS.gnob rfl (oj := _) (by rfl) (by rfl) (.there rfl (.there rfl (.there rfl .here))) rfl ?_
              refine JS.gnob rfl (oj := _) (by rfl) (by rfl) (.there rfl (.there rfl (.there rfl (.there rfl .here)))) rfl ?_
              refine JS.gnob rfl (oj := _) (by rfl) (by rfl) (.there rfl (.there rfl (.there rfl (.there rfl (.there rfl .here))))) rfl ?_
              refine JS.val rfl (Run.pickT (.tmp (.there rfl (.there rfl (.there rfl (.there rfl (.there rfl (.there rfl .here))))))) rfl .const) ?_
              refine JS.val rfl (Run.fieldAddr (ft := 4) (foff := 4) (off := 4) @Try.underlying66 (by rfl) (@Try.sizeOf4 _) rfl rfl (.tmp (.there rfl (.there rfl (.there rfl (.there rfl (.there rfl (.there rfl (.there rfl (.there rfl (.there rfl (.there rfl (.there rfl (.there rfl (.there rfl (.there rfl (.there rfl (.there rfl (.there rfl (.there rfl .here)))))))))))))))))))) ?_
              refine JS.tail ?_
              refine JL.storeB (@Try.sizeOf4 _) (.tmp .here) (.tmp (.there rfl .here)) (by rfl) (by rfl) Bb7 rfl ?_
              intro w105 hc106 hb107
              replace Bb1 := Bb1.ch hc106 (Nat.ne_of_lt lt_b1_b7)
              replace hK := hK.own hc106 ge_b7
              replace Bb7 := hb107; clear hb107
              refine JL.nil ?_
              refine JE.keep (L := _) (.cons (.there rfl (.there rfl (.there rfl (.there rfl (.there rfl (.there rfl (.there rfl (.there rfl (.there rfl (.there rfl (.there rfl (.there rfl (.there rfl (.there rfl (.there rfl (.there rfl (.there rfl (.there rfl .here)))))))))))))))))) (.cons (.there rfl (.there rfl (.there rfl (.there rfl (.there rfl (.there rfl (.there rfl (.there rfl (.there rfl (.there rfl (.there rfl (.there rfl (.there rfl (.there rfl (.there rfl (.there rfl (.there rfl (.there rfl (.there rfl .here))))))))))))))))))) .nil)) ?_
              refine JE.seq ?_
              refine JC.seq ?_
              refine JC.region ?_
              refine JL.val rfl (Run.loadA (@Try.isAgg66 _) (@Try.sizeOf66 _) (.tmp (.there rfl .here)) Bb7 rfl) ?_
              refine JL.storeA (@Try.sizeOf66 _) (.tmp (.there rfl .here)) (.tmp .here) (by rfl) (by rfl) Bb1 rfl ?_
              intro w108 hc109 hb110
              replace Bb7 := Bb7.ch hc109 (Nat.ne_of_gt lt_b1_b7)
              replace hK := hK.own hc109 ge_b1
              replace Bb1 := hb110; clear hb110
              refine JL.val rfl (Run.assign .const) ?_
              refine JL.nil ?_
              refine JE.seq ?_
              refine JC.ret ?_
              refine JE.retc2 @Try.results21 (.cell (.there rfl (.there rfl .here)) (run_loadVar (@Try.isAgg66 _) (@Try.sizeOf66 _) Bb1 (Nat.le_of_ble_eq_true rfl))) (.tmp .here) ?_
              refine ⟨congrArg Ending.returned ?_, hK⟩
              rw [readF_cons hKK, if_neg hg1, if_neg hg2, ← hN, if_neg h3]
              rw [decide_eq_true (.inl k31)]; rfl
        · have g24 : ¬ (c.toNat : Int) % 32 = 24 := ne_of_beq_false g24B
          refine JL.gnob rfl (oj := _) (by rfl) (by rfl) .here g24B ?_
          refine JL.gnob rfl (oj := _) (by rfl) (by rfl) (.there rfl .here) g24B ?_
          refine JL.gnob rfl (oj := _) (by rfl) (by rfl) (.there rfl (.there rfl .here)) g24B ?_
          refine JL.val rfl (Run.pickF (.tmp (.there rfl (.there rfl (.there rfl .here)))) g24B .const) ?_
          refine JL.nil ?_
          refine JE.keep (L := _) (.cons .here (.cons (.there rfl (.there rfl (.there rfl (.there rfl (.there rfl (.there rfl (.there rfl (.there rfl (.there rfl (.there rfl (.there rfl (.there rfl (.there rfl (.there rfl .here)))))))))))))) (.cons (.there rfl (.there rfl (.there rfl (.there rfl (.there rfl (.there rfl (.there rfl (.there rfl (.there rfl (.there rfl (.there rfl (.there rfl (.there rfl (.there rfl (.there rfl .here))))))))))))))) .nil))) ?_
          refine JE.seq ?_
          refine JC.condF (.tmp .here) (rfl) ?_
          have h3 : ¬ ((c.toNat : Int) / 32 = 7 ∧ (c.toNat : Int) % 32 = 24 ∧ N < 32) := fun h => g24 h.2.1
          refine JC.skip ?_
          refine JE.seq ?_
          refine JC.seq ?_
          refine JC.drawnc (m := 17) mixed (by kernel_rfl) ?_
          intro w80 hd81
          replace Bb1 := Bb1.no hd81
          replace Bb7 := Bb7.no hd81
          replace hK := hK.no hd81
          refine JS.val rfl (Run.fieldAddr (ft := 3) (foff := 1) (off := 1) @Try.underlying66 (by rfl) (@Try.sizeOf3 _) rfl rfl (.tmp (.there rfl (.there rfl .here)))) ?_
          refine JS.val rfl (Run.loadB (@Try.isAgg3 _) (.tmp .here) Bb7 (by rfl)) ?_
          refine JS.val rfl (Run.eql (.tmp .here) .const) ?_
          refine JS.val rfl (Run.move (.tmp .here)) ?_
          refine JS.gsplit (dj := 99) (want := false) .here (fun k31B => ?_) (fun k31B => ?_)
          · have k31 : ¬ (c.toNat : Int) % 32 = 31 := ne_of_beq_false k31B
            refine JS.gyesb (oj := _) (by rfl) (by rfl) .here k31B ?_
            refine JS.val rfl (Run.fieldAddr (ft := 3) (foff := 0) (off := 0) @Try.underlying66 (by rfl) (@Try.sizeOf3 _) rfl rfl (.tmp (.there rfl (.there rfl (.there rfl (.there rfl (.there rfl (.there rfl .here)))))))) ?_
            refine JS.gyesb (oj := _) (by rfl) (by rfl) (.there rfl .here) k31B ?_
            refine JS.val rfl (Run.loadB (@Try.isAgg3 _) (.tmp .here) Bb7 (by rfl)) ?_
            refine JS.gyesb (oj := _) (by rfl) (by rfl) (.there rfl (.there rfl .here)) k31B ?_
            refine JS.val rfl (Run.eql (.tmp .here) .const) ?_
            refine JS.val rfl (Run.pickF (.tmp (.there rfl (.there rfl (.there rfl .here)))) k31B (.tmp .here)) ?_
            refine JS.val rfl (Run.move (.tmp .here)) ?_
            refine JS.gsplit (dj := 104) (want := false) .here (fun k7B => ?_) (fun k7B => ?_)
            · have k7 : ¬ (c.toNat : Int) / 32 = 7 := ne_of_beq_false k7B
              refine JS.gyesb (oj := _) (by rfl) (by rfl) .here k7B ?_
              refine JS.val rfl (Run.fieldAddr (ft := 3) (foff := 3) (off := 3) @Try.underlying66 (by rfl) (@Try.sizeOf3 _) rfl rfl (.tmp (.there rfl (.there rfl (.there rfl (.there rfl (.there rfl (.there rfl (.there rfl (.there rfl (.there rfl (.there rfl (.there rfl .here))))))))))))) ?_
              refine JS.gyesb (oj := _) (by rfl) (by rfl) (.there rfl .here) k7B ?_
              refine JS.val rfl (Run.loadB (@Try.isAgg3 _) (.tmp .here) Bb7 (by rfl)) ?_
              refine JS.gyesb (oj := _) (by rfl) (by rfl) (.there rfl (.there rfl .here)) k7B ?_
              refine JS.val rfl (Run.fieldAddr (ft := 50) (foff := 2) (off := 2) @Try.underlying66 (by rfl) (@Try.sizeOf50 _) rfl rfl (.tmp (.there rfl (.there rfl (.there rfl (.there rfl (.there rfl (.there rfl (.there rfl (.there rfl (.there rfl (.there rfl (.there rfl (.there rfl (.there rfl .here))))))))))))))) ?_
              refine JS.gyesb (oj := _) (by rfl) (by rfl) (.there rfl (.there rfl (.there rfl .here))) k7B ?_
              refine JS.val rfl (Run.loadB (@Try.isAgg50 _) (.tmp .here) Bb7 (by rfl)) ?_
              refine JS.gyesb (oj := _) (by rfl) (by rfl) (.there rfl (.there rfl (.there rfl (.there rfl .here)))) k7B ?_
              refine JS.call rfl (Run.call @Try.call8 (.cons (.tmp .here) .nil)) (size_any N hN0 _) ?_
              refine JS.gyesb (oj := _) (by rfl) (by rfl) (.there rfl (.there rfl (.there rfl (.there rfl (.there rfl .here))))) k7B ?_
              refine JS.val rfl (Run.eql (.tmp (.there rfl (.there rfl (.there rfl .here)))) (.tmp .here)) ?_
              refine JS.val rfl (Run.pickF (.tmp (.there rfl (.there rfl (.there rfl (.there rfl (.there rfl (.there rfl .here))))))) k7B (.tmp .here)) ?_
              refine JS.val rfl (Run.fieldAddr (ft := 4) (foff := 4) (off := 4) @Try.underlying66 (by rfl) (@Try.sizeOf4 _) rfl rfl (.tmp (.there rfl (.there rfl (.there rfl (.there rfl (.there rfl (.there rfl (.there rfl (.there rfl (.there rfl (.there rfl (.there rfl (.there rfl (.there rfl (.there rfl (.there rfl (.there rfl (.there rfl (.there rfl .here)))))))))))))))))))) ?_
              refine JS.tail ?_
              refine JL.storeB (@Try.sizeOf4 _) (.tmp .here) (.tmp (.there rfl .here)) (by rfl) (by rfl) Bb7 rfl ?_
              intro w94 hc95 hb96
              replace Bb1 := Bb1.ch hc95 (Nat.ne_of_lt lt_b1_b7)
              replace hK := hK.own hc95 ge_b7
              replace Bb7 := hb96; clear hb96
              refine JL.nil ?_
              refine JE.keep (L := _) (.cons (.there rfl (.there rfl (.there rfl (.there rfl (.there rfl (.there rfl (.there rfl (.there rfl (.there rfl (.there rfl (.there rfl (.there rfl (.there rfl (.there rfl (.there rfl (.there rfl (.there rfl (.there rfl .here)))))))))))))))))) (.cons (.there rfl (.there rfl (.there rfl (.there rfl (.there rfl (.there rfl (.there rfl (.there rfl (.there rfl (.there rfl (.there rfl (.there rfl (.there rfl (.there rfl (.there rfl (.there rfl (.there rfl (.there rfl (.there rfl .here))))))))))))))))))) .nil)) ?_
              refine JE.seq ?_
              refine JC.seq ?_
              refine JC.region ?_
              refine JL.val rfl (Run.loadA (@Try.isAgg66 _) (@Try.sizeOf66 _) (.tmp (.there rfl .here)) Bb7 rfl) ?_
              refine JL.storeA (@Try.sizeOf66 _) (.tmp (.there rfl .here)) (.tmp .here) (by rfl) (by rfl) Bb1 rfl ?_
              intro w97 hc98 hb99
              replace Bb7 := Bb7.ch hc98 (Nat.ne_of_gt lt_b1_b7)
              replace hK := hK.own hc98 ge_b1
              replace Bb1 := hb99; clear hb99
              refine JL.val rfl (Run.assign .const) ?_
              refine JL.nil ?_
              refine JE.seq ?_
              refine JC.ret ?_
              refine JE.retc2 @Try.results21 (.cell (.there rfl (.there rfl .here)) (run_loadVar (@Try.isAgg66 _) (@Try.sizeOf66 _) Bb1 (Nat.le_of_ble_eq_true rfl))) (.tmp .here) ?_
              refine ⟨congrArg Ending.returned ?_, hK⟩
              rw [readF_cons hKK, if_neg hg1, if_neg hg2, ← hN, if_neg h3]
              rw [show decide ((c.toNat : Int) % 32 = 31 ∨ (c.toNat : Int) / 32 = 7 ∨ 1 + behindI ((c.toNat : Int) % 32) = sizeI N) = (1 + behindI ((c.toNat : Int) % 32) == sizeI N) from (by rw [Bool.eq_iff_iff, decide_eq_true_iff, beq_iff_eq]; exact ⟨fun h => h.elim (absurd · k31) (fun h => h.elim (absurd · k7) id), fun h => .inr (.inr h)⟩)]; rfl
            · have k7 : (c.toNat : Int) / 32 = 7 := eq_of_beq k7B
              refine JS.gnob rfl (oj := _) (by rfl) (by rfl) .here k7B ?_
              refine JS.gnob rfl (oj := _) (by rfl) (by rfl) (.there rfl .here) k7B ?_
              refine JS.gnob rfl (oj := _) (by rfl) (by rfl) (.there rfl (.there rfl .here)) k7B ?_
              refine JS.gnob rfl (oj := _) (by rfl) (by rfl) (.there rfl (.there rfl (.there rfl .here))) k7B ?_
              refine JS.gnob rfl (oj := _) (by rfl) (by rfl) (.there rfl (.there rfl (.there rfl (.there rfl .here)))) k7B ?_
              refine JS.gnob rfl (oj := _) (by rfl) (by rfl) (.there rfl (.there rfl (.there rfl (.there rfl (.there rfl .here))))) k7B ?_
              refine JS.val rfl (Run.pickT (.tmp (.there rfl (.there rfl (.there rfl (.there rfl (.there rfl (.there rfl .here))))))) k7B .const) ?_
              refine JS.val rfl (Run.fieldAddr (ft := 4) (foff := 4) (off := 4) @Try.underlying66 (by rfl) (@Try.sizeOf4 _) rfl rfl (.tmp (.there rfl (.there rfl (.there rfl (.there rfl (.there rfl (.there rfl (.there rfl (.there rfl (.there rfl (.there rfl (.there rfl (.there rfl (.there rfl (.there rfl (.there rfl (.there rfl (.there rfl (.there rfl .here)))))))))))))))))))) ?_
              refine JS.tail ?_
              refine JL.storeB (@Try.sizeOf4 _) (.tmp .here) (.tmp (.there rfl .here)) (by rfl) (by rfl) Bb7 rfl ?_
              intro w88 hc89 hb90
              replace Bb1 := Bb1.ch hc89 (Nat.ne_of_lt lt_b1_b7)
              replace hK := hK.own hc89 ge_b7
              replace Bb7 := hb90; clear hb90
              refine JL.nil ?_
              refine JE.keep (L := _) (.cons (.there rfl (.there rfl (.there rfl (.there rfl (.there rfl (.there rfl (.there rfl (.there rfl (.there rfl (.there rfl (.there rfl (.there rfl (.there rfl (.there rfl (.there rfl (.there rfl (.there rfl (.there rfl .here)))))))))))))))))) (.cons (.there rfl (.there rfl (.there rfl (.there rfl (.there rfl (.there rfl (.there rfl (.there rfl (.there rfl (.there rfl (.there rfl (.there rfl (.there rfl (.there rfl (.there rfl (.there rfl (.there rfl (.there rfl (.there rfl .here))))))))))))))))))) .nil)) ?_
              refine JE.seq ?_
              refine JC.seq ?_
              refine JC.region ?_
              refine JL.val rfl (Run.loadA (@Try.isAgg66 _) (@Try.sizeOf66 _) (.tmp (.there rfl .here)) Bb7 rfl) ?_
              refine JL.storeA (@Try.sizeOf66 _) (.tmp (.there rfl .here)) (.tmp .here) (by rfl) (by rfl) Bb1 rfl ?_
              intro w91 hc92 hb93
              replace Bb7 := Bb7.ch hc92 (Nat.ne_of_gt lt_b1_b7)
              replace hK := hK.own hc92 ge_b1
              replace Bb1 := hb93; clear hb93
              refine JL.val rfl (Run.assign .const) ?_
              refine JL.nil ?_
              refine JE.seq ?_
              refine JC.ret ?_
              refine JE.retc2 @Try.results21 (.cell (.there rfl (.there rfl .here)) (run_loadVar (@Try.isAgg66 _) (@Try.sizeOf66 _) Bb1 (Nat.le_of_ble_eq_true rfl))) (.tmp .here) ?_
              refine ⟨congrArg Ending.returned ?_, hK⟩
              rw [readF_cons hKK, if_neg hg1, if_neg hg2, ← hN, if_neg h3]
              rw [decide_eq_true (.inr (.inl k7))]; rfl
          · have k31 : (c.toNat : Int) % 32 = 31 := eq_of_beq k31B
            refine JS.gnob rfl (oj := _) (by rfl) (by rfl) .here k31B ?_
            refine JS.gnob rfl (oj := _) (by rfl) (by rfl) (.there rfl .here) k31B ?_
            refine JS.gnob rfl (oj := _) (by rfl) (by rfl) (.there rfl (.there rfl .here)) k31B ?_
            refine JS.val rfl (Run.pickT (.tmp (.there rfl (.there rfl (.there rfl .here)))) k31B .const) ?_
            refine JS.val rfl (Run.move (.tmp .here)) ?_
            refine JS.gnob rfl (oj := _) (by rfl) (by rfl) .here rfl ?_
            refine JS.gnob rfl (oj := _) (by rfl) (by rfl) (.there rfl .here) rfl ?_
            refine JS.gnob rfl (oj := _) (by rfl) (by rfl) (.there rfl (.there rfl .here)) rfl ?_
            refine JS.gnob rfl (oj := _) (by rfl) (by rfl) (.there rfl (.there rfl (.there rfl .here))) rfl ?_
            refine JS.gnob rfl (oj := _) (by rfl) (by rfl) (.there rfl (.there rfl (.there rfl (.there rfl .here)))) rfl ?_
            refine JS.gnob rfl (oj := _) (by rfl) (by rfl) (.there rfl (.there rfl (.there rfl (.there rfl (.there rfl .here))))) rfl ?_
            refine JS.val rfl (Run.pickT (.tmp (.there rfl (.there rfl (.there rfl (.there rfl (.there rfl (.there rfl .here))))))) rfl .const) ?_
            refine JS.val rfl (Run.fieldAddr (ft := 4) (foff := 4) (off := 4) @Try.underlying66 (by rfl) (@Try.sizeOf4 _) rfl rfl (.tmp (.there rfl (.there rfl (.there rfl (.there rfl (.there rfl (.there rfl (.there rfl (.there rfl (.there rfl (.there rfl (.there rfl (.there rfl (.there rfl (.there rfl (.there rfl (.there rfl (.there rfl (.there rfl .here)))))))))))))))))))) ?_
            refine JS.tail ?_
            refine JL.storeB (@Try.sizeOf4 _) (.tmp .here) (.tmp (.there rfl .here)) (by rfl) (by rfl) Bb7 rfl ?_
            intro w82 hc83 hb84
            replace Bb1 := Bb1.ch hc83 (Nat.ne_of_lt lt_b1_b7)
            replace hK := hK.own hc83 ge_b7
            replace Bb7 := hb84; clear hb84
            refine JL.nil ?_
            refine JE.keep (L := _) (.cons (.there rfl (.there rfl (.there rfl (.there rfl (.there rfl (.there rfl (.there rfl (.there rfl (.there rfl (.there rfl (.there rfl (.there rfl (.there rfl (.there rfl (.there rfl (.there rfl (.there rfl (.there rfl .here)))))))))))))))))) (.cons (.there rfl (.there rfl (.there rfl (.there rfl (.there rfl (.there rfl (.there rfl (.there rfl (.there rfl (.there rfl (.there rfl (.there rfl (.there rfl (.there rfl (.there rfl (.there rfl (.there rfl (.there rfl (.there rfl .here))))))))))))))))))) .nil)) ?_
            refine JE.seq ?_
            refine JC.seq ?_
            refine JC.region ?_
            refine JL.val rfl (Run.loadA (@Try.isAgg66 _) (@Try.sizeOf66 _) (.tmp (.there rfl .here)) Bb7 rfl) ?_
            refine JL.storeA (@Try.sizeOf66 _) (.tmp (.there rfl .here)) (.tmp .here) (by rfl) (by rfl) Bb1 rfl ?_
            intro w85 hc86 hb87
            replace Bb7 := Bb7.ch hc86 (Nat.ne_of_gt lt_b1_b7)
            replace hK := hK.own hc86 ge_b1
            replace Bb1 := hb87; clear hb87
            refine JL.val rfl (Run.assign .const) ?_
            refine JL.nil ?_
            refine JE.seq ?_
            refine JC.ret ?_
            refine JE.retc2 @Try.results21 (.cell (.there rfl (.there rfl .here)) (run_loadVar (@Try.isAgg66 _) (@Try.sizeOf66 _) Bb1 (Nat.le_of_ble_eq_true rfl))) (.tmp .here) ?_
            refine ⟨congrArg Ending.returned ?_, hK⟩
            rw [readF_cons hKK, if_neg hg1, if_neg hg2, ← hN, if_neg h3]
            rw [decide_eq_true (.inl k31)]; rfl
      · have g7 : ¬ (c.toNat : Int) / 32 = 7 := ne_of_beq_false g7B
        refine JL.gnob rfl (oj := _) (by rfl) (by rfl) .here g7B ?_
        refine JL.gnob rfl (oj := _) (by rfl) (by rfl) (.there rfl .here) g7B ?_
        refine JL.gnob rfl (oj := _) (by rfl) (by rfl) (.there rfl (.there rfl .here)) g7B ?_
        refine JL.val rfl (Run.pickF (.tmp (.there rfl (.there rfl (.there rfl .here)))) g7B .const) ?_
        refine JL.val rfl (Run.move (.tmp .here)) ?_
        refine JL.gnob rfl (oj := _) (by rfl) (by rfl) .here rfl ?_
        refine JL.gnob rfl (oj := _) (by rfl) (by rfl) (.there rfl .here) rfl ?_
        refine JL.gnob rfl (oj := _) (by rfl) (by rfl) (.there rfl (.there rfl .here)) rfl ?_
        refine JL.val rfl (Run.pickF (.tmp (.there rfl (.there rfl (.there rfl .here)))) rfl .const) ?_
        refine JL.nil ?_
        refine JE.keep (L := _) (.cons .here (.cons (.there rfl (.there rfl (.there rfl (.there rfl (.there rfl (.there rfl (.there rfl (.there rfl (.there rfl (.there rfl (.there rfl (.there rfl (.there rfl (.there rfl .here)))))))))))))) (.cons (.there rfl (.there rfl (.there rfl (.there rfl (.there rfl (.there rfl (.there rfl (.there rfl (.there rfl (.there rfl (.there rfl (.there rfl (.there rfl (.there rfl (.there rfl .here))))))))))))))) .nil))) ?_
        refine JE.seq ?_
        refine JC.condF (.tmp .here) (rfl) ?_
        have h3 : ¬ ((c.toNat : Int) / 32 = 7 ∧ (c.toNat : Int) % 32 = 24 ∧ N < 32) := fun h => g7 h.1
        refine JC.skip ?_
        refine JE.seq ?_
        refine JC.seq ?_
        refine JC.drawnc (m := 17) mixed (by kernel_rfl) ?_
        intro w60 hd61
        replace Bb1 := Bb1.no hd61
        replace Bb7 := Bb7.no hd61
        replace hK := hK.no hd61
        refine JS.val rfl (Run.fieldAddr (ft := 3) (foff := 1) (off := 1) @Try.underlying66 (by rfl) (@Try.sizeOf3 _) rfl rfl (.tmp (.there rfl (.there rfl .here)))) ?_
        refine JS.val rfl (Run.loadB (@Try.isAgg3 _) (.tmp .here) Bb7 (by rfl)) ?_
        refine JS.val rfl (Run.eql (.tmp .here) .const) ?_
        refine JS.val rfl (Run.move (.tmp .here)) ?_
        refine JS.gsplit (dj := 99) (want := false) .here (fun k31B => ?_) (fun k31B => ?_)
        · have k31 : ¬ (c.toNat : Int) % 32 = 31 := ne_of_beq_false k31B
          refine JS.gyesb (oj := _) (by rfl) (by rfl) .here k31B ?_
          refine JS.val rfl (Run.fieldAddr (ft := 3) (foff := 0) (off := 0) @Try.underlying66 (by rfl) (@Try.sizeOf3 _) rfl rfl (.tmp (.there rfl (.there rfl (.there rfl (.there rfl (.there rfl (.there rfl .here)))))))) ?_
          refine JS.gyesb (oj := _) (by rfl) (by rfl) (.there rfl .here) k31B ?_
          refine JS.val rfl (Run.loadB (@Try.isAgg3 _) (.tmp .here) Bb7 (by rfl)) ?_
          refine JS.gyesb (oj := _) (by rfl) (by rfl) (.there rfl (.there rfl .here)) k31B ?_
          refine JS.val rfl (Run.eql (.tmp .here) .const) ?_
          refine JS.val rfl (Run.pickF (.tmp (.there rfl (.there rfl (.there rfl .here)))) k31B (.tmp .here)) ?_
          refine JS.val rfl (Run.move (.tmp .here)) ?_
          refine JS.gsplit (dj := 104) (want := false) .here (fun k7B => ?_) (fun k7B => ?_)
          · have k7 : ¬ (c.toNat : Int) / 32 = 7 := ne_of_beq_false k7B
            refine JS.gyesb (oj := _) (by rfl) (by rfl) .here k7B ?_
            refine JS.val rfl (Run.fieldAddr (ft := 3) (foff := 3) (off := 3) @Try.underlying66 (by rfl) (@Try.sizeOf3 _) rfl rfl (.tmp (.there rfl (.there rfl (.there rfl (.there rfl (.there rfl (.there rfl (.there rfl (.there rfl (.there rfl (.there rfl (.there rfl .here))))))))))))) ?_
            refine JS.gyesb (oj := _) (by rfl) (by rfl) (.there rfl .here) k7B ?_
            refine JS.val rfl (Run.loadB (@Try.isAgg3 _) (.tmp .here) Bb7 (by rfl)) ?_
            refine JS.gyesb (oj := _) (by rfl) (by rfl) (.there rfl (.there rfl .here)) k7B ?_
            refine JS.val rfl (Run.fieldAddr (ft := 50) (foff := 2) (off := 2) @Try.underlying66 (by rfl) (@Try.sizeOf50 _) rfl rfl (.tmp (.there rfl (.there rfl (.there rfl (.there rfl (.there rfl (.there rfl (.there rfl (.there rfl (.there rfl (.there rfl (.there rfl (.there rfl (.there rfl .here))))))))))))))) ?_
            refine JS.gyesb (oj := _) (by rfl) (by rfl) (.there rfl (.there rfl (.there rfl .here))) k7B ?_
            refine JS.val rfl (Run.loadB (@Try.isAgg50 _) (.tmp .here) Bb7 (by rfl)) ?_
            refine JS.gyesb (oj := _) (by rfl) (by rfl) (.there rfl (.there rfl (.there rfl (.there rfl .here)))) k7B ?_
            refine JS.call rfl (Run.call @Try.call8 (.cons (.tmp .here) .nil)) (size_any N hN0 _) ?_
            refine JS.gyesb (oj := _) (by rfl) (by rfl) (.there rfl (.there rfl (.there rfl (.there rfl (.there rfl .here))))) k7B ?_
            refine JS.val rfl (Run.eql (.tmp (.there rfl (.there rfl (.there rfl .here)))) (.tmp .here)) ?_
            refine JS.val rfl (Run.pickF (.tmp (.there rfl (.there rfl (.there rfl (.there rfl (.there rfl (.there rfl .here))))))) k7B (.tmp .here)) ?_
            refine JS.val rfl (Run.fieldAddr (ft := 4) (foff := 4) (off := 4) @Try.underlying66 (by rfl) (@Try.sizeOf4 _) rfl rfl (.tmp (.there rfl (.there rfl (.there rfl (.there rfl (.there rfl (.there rfl (.there rfl (.there rfl (.there rfl (.there rfl (.there rfl (.there rfl (.there rfl (.there rfl (.there rfl (.there rfl (.there rfl (.there rfl .here)))))))))))))))))))) ?_
            refine JS.tail ?_
            refine JL.storeB (@Try.sizeOf4 _) (.tmp .here) (.tmp (.there rfl .here)) (by rfl) (by rfl) Bb7 rfl ?_
            intro w74 hc75 hb76
            replace Bb1 := Bb1.ch hc75 (Nat.ne_of_lt lt_b1_b7)
            replace hK := hK.own hc75 ge_b7
            replace Bb7 := hb76; clear hb76
            refine JL.nil ?_
            refine JE.keep (L := _) (.cons (.there rfl (.there rfl (.there rfl (.there rfl (.there rfl (.there rfl (.there rfl (.there rfl (.there rfl (.there rfl (.there rfl (.there rfl (.there rfl (.there rfl (.there rfl (.there rfl (.there rfl (.there rfl .here)))))))))))))))))) (.cons (.there rfl (.there rfl (.there rfl (.there rfl (.there rfl (.there rfl (.there rfl (.there rfl (.there rfl (.there rfl (.there rfl (.there rfl (.there rfl (.there rfl (.there rfl (.there rfl (.there rfl (.there rfl (.there rfl .here))))))))))))))))))) .nil)) ?_
            refine JE.seq ?_
            refine JC.seq ?_
            refine JC.region ?_
            refine JL.val rfl (Run.loadA (@Try.isAgg66 _) (@Try.sizeOf66 _) (.tmp (.there rfl .here)) Bb7 rfl) ?_
            refine JL.storeA (@Try.sizeOf66 _) (.tmp (.there rfl .here)) (.tmp .here) (by rfl) (by rfl) Bb1 rfl ?_
            intro w77 hc78 hb79
            replace Bb7 := Bb7.ch hc78 (Nat.ne_of_gt lt_b1_b7)
            replace hK := hK.own hc78 ge_b1
            replace Bb1 := hb79; clear hb79
            refine JL.val rfl (Run.assign .const) ?_
            refine JL.nil ?_
            refine JE.seq ?_
            refine JC.ret ?_
            refine JE.retc2 @Try.results21 (.cell (.there rfl (.there rfl .here)) (run_loadVar (@Try.isAgg66 _) (@Try.sizeOf66 _) Bb1 (Nat.le_of_ble_eq_true rfl))) (.tmp .here) ?_
            refine ⟨congrArg Ending.returned ?_, hK⟩
            rw [readF_cons hKK, if_neg hg1, if_neg hg2, ← hN, if_neg h3]
            rw [show decide ((c.toNat : Int) % 32 = 31 ∨ (c.toNat : Int) / 32 = 7 ∨ 1 + behindI ((c.toNat : Int) % 32) = sizeI N) = (1 + behindI ((c.toNat : Int) % 32) == sizeI N) from (by rw [Bool.eq_iff_iff, decide_eq_true_iff, beq_iff_eq]; exact ⟨fun h => h.elim (absurd · k31) (fun h => h.elim (absurd · k7) id), fun h => .inr (.inr h)⟩)]; rfl
          · have k7 : (c.toNat : Int) / 32 = 7 := eq_of_beq k7B
            refine JS.gnob rfl (oj := _) (by rfl) (by rfl) .here k7B ?_
            refine JS.gnob rfl (oj := _) (by rfl) (by rfl) (.there rfl .here) k7B ?_
            refine JS.gnob rfl (oj := _) (by rfl) (by rfl) (.there rfl (.there rfl .here)) k7B ?_
            refine JS.gnob rfl (oj := _) (by rfl) (by rfl) (.there rfl (.there rfl (.there rfl .here))) k7B ?_
            refine JS.gnob rfl (oj := _) (by rfl) (by rfl) (.there rfl (.there rfl (.there rfl (.there rfl .here)))) k7B ?_
            refine JS.gnob rfl (oj := _) (by rfl) (by rfl) (.there rfl (.there rfl (.there rfl (.there rfl (.there rfl .here))))) k7B ?_
            refine JS.val rfl (Run.pickT (.tmp (.there rfl (.there rfl (.there rfl (.there rfl (.there rfl (.there rfl .here))))))) k7B .const) ?_
            refine JS.val rfl (Run.fieldAddr (ft := 4) (foff := 4) (off := 4) @Try.underlying66 (by rfl) (@Try.sizeOf4 _) rfl rfl (.tmp (.there rfl (.there rfl (.there rfl (.there rfl (.there rfl (.there rfl (.there rfl (.there rfl (.there rfl (.there rfl (.there rfl (.there rfl (.there rfl (.there rfl (.there rfl (.there rfl (.there rfl (.there rfl .here)))))))))))))))))))) ?_
            refine JS.tail ?_
            refine JL.storeB (@Try.sizeOf4 _) (.tmp .here) (.tmp (.there rfl .here)) (by rfl) (by rfl) Bb7 rfl ?_
            intro w68 hc69 hb70
            replace Bb1 := Bb1.ch hc69 (Nat.ne_of_lt lt_b1_b7)
            replace hK := hK.own hc69 ge_b7
            replace Bb7 := hb70; clear hb70
            refine JL.nil ?_
            refine JE.keep (L := _) (.cons (.there rfl (.there rfl (.there rfl (.there rfl (.there rfl (.there rfl (.there rfl (.there rfl (.there rfl (.there rfl (.there rfl (.there rfl (.there rfl (.there rfl (.there rfl (.there rfl (.there rfl (.there rfl .here)))))))))))))))))) (.cons (.there rfl (.there rfl (.there rfl (.there rfl (.there rfl (.there rfl (.there rfl (.there rfl (.there rfl (.there rfl (.there rfl (.there rfl (.there rfl (.there rfl (.there rfl (.there rfl (.there rfl (.there rfl (.there rfl .here))))))))))))))))))) .nil)) ?_
            refine JE.seq ?_
            refine JC.seq ?_
            refine JC.region ?_
            refine JL.val rfl (Run.loadA (@Try.isAgg66 _) (@Try.sizeOf66 _) (.tmp (.there rfl .here)) Bb7 rfl) ?_
            refine JL.storeA (@Try.sizeOf66 _) (.tmp (.there rfl .here)) (.tmp .here) (by rfl) (by rfl) Bb1 rfl ?_
            intro w71 hc72 hb73
            replace Bb7 := Bb7.ch hc72 (Nat.ne_of_gt lt_b1_b7)
            replace hK := hK.own hc72 ge_b1
            replace Bb1 := hb73; clear hb73
            refine JL.val rfl (Run.assign .const) ?_
            refine JL.nil ?_
            refine JE.seq ?_
            refine JC.ret ?_
            refine JE.retc2 @Try.results21 (.cell (.there rfl (.there rfl .here)) (run_loadVar (@Try.isAgg66 _) (@Try.sizeOf66 _) Bb1 (Nat.le_of_ble_eq_true rfl))) (.tmp .here) ?_
            refine ⟨congrArg Ending.returned ?_, hK⟩
            rw [readF_cons hKK, if_neg hg1, if_neg hg2, ← hN, if_neg h3]
            rw [decide_eq_true (.inr (.inl k7))]; rfl
        · have k31 : (c.toNat : Int) % 32 = 31 := eq_of_beq k31B
          refine JS.gnob rfl (oj := _) (by rfl) (by rfl) .here k31B ?_
          refine JS.gnob rfl (oj := _) (by rfl) (by rfl) (.there rfl .here) k31B ?_
          refine JS.gnob rfl (oj := _) (by rfl) (by rfl) (.there rfl (.there rfl .here)) k31B ?_
          refine JS.val rfl (Run.pickT (.tmp (.there rfl (.there rfl (.there rfl .here)))) k31B .const) ?_
          refine JS.val rfl (Run.move (.tmp .here)) ?_
          refine JS.gnob rfl (oj := _) (by rfl) (by rfl) .here rfl ?_
          refine JS.gnob rfl (oj := _) (by rfl) (by rfl) (.there rfl .here) rfl ?_
          refine JS.gnob rfl (oj := _) (by rfl) (by rfl) (.there rfl (.there rfl .here)) rfl ?_
          refine JS.gnob rfl (oj := _) (by rfl) (by rfl) (.there rfl (.there rfl (.there rfl .here))) rfl ?_
          refine JS.gnob rfl (oj := _) (by rfl) (by rfl) (.there rfl (.there rfl (.there rfl (.there rfl .here)))) rfl ?_
          refine JS.gnob rfl (oj := _) (by rfl) (by rfl) (.there rfl (.there rfl (.there rfl (.there rfl (.there rfl .here))))) rfl ?_
          refine JS.val rfl (Run.pickT (.tmp (.there rfl (.there rfl (.there rfl (.there rfl (.there rfl (.there rfl .here))))))) rfl .const) ?_
          refine JS.val rfl (Run.fieldAddr (ft := 4) (foff := 4) (off := 4) @Try.underlying66 (by rfl) (@Try.sizeOf4 _) rfl rfl (.tmp (.there rfl (.there rfl (.there rfl (.there rfl (.there rfl (.there rfl (.there rfl (.there rfl (.there rfl (.there rfl (.there rfl (.there rfl (.there rfl (.there rfl (.there rfl (.there rfl (.there rfl (.there rfl .here)))))))))))))))))))) ?_
          refine JS.tail ?_
          refine JL.storeB (@Try.sizeOf4 _) (.tmp .here) (.tmp (.there rfl .here)) (by rfl) (by rfl) Bb7 rfl ?_
          intro w62 hc63 hb64
          replace Bb1 := Bb1.ch hc63 (Nat.ne_of_lt lt_b1_b7)
          replace hK := hK.own hc63 ge_b7
          replace Bb7 := hb64; clear hb64
          refine JL.nil ?_
          refine JE.keep (L := _) (.cons (.there rfl (.there rfl (.there rfl (.there rfl (.there rfl (.there rfl (.there rfl (.there rfl (.there rfl (.there rfl (.there rfl (.there rfl (.there rfl (.there rfl (.there rfl (.there rfl (.there rfl (.there rfl .here)))))))))))))))))) (.cons (.there rfl (.there rfl (.there rfl (.there rfl (.there rfl (.there rfl (.there rfl (.there rfl (.there rfl (.there rfl (.there rfl (.there rfl (.there rfl (.there rfl (.there rfl (.there rfl (.there rfl (.there rfl (.there rfl .here))))))))))))))))))) .nil)) ?_
          refine JE.seq ?_
          refine JC.seq ?_
          refine JC.region ?_
          refine JL.val rfl (Run.loadA (@Try.isAgg66 _) (@Try.sizeOf66 _) (.tmp (.there rfl .here)) Bb7 rfl) ?_
          refine JL.storeA (@Try.sizeOf66 _) (.tmp (.there rfl .here)) (.tmp .here) (by rfl) (by rfl) Bb1 rfl ?_
          intro w65 hc66 hb67
          replace Bb7 := Bb7.ch hc66 (Nat.ne_of_gt lt_b1_b7)
          replace hK := hK.own hc66 ge_b1
          replace Bb1 := hb67; clear hb67
          refine JL.val rfl (Run.assign .const) ?_
          refine JL.nil ?_
          refine JE.seq ?_
          refine JC.ret ?_
          refine JE.retc2 @Try.results21 (.cell (.there rfl (.there rfl .here)) (run_loadVar (@Try.isAgg66 _) (@Try.sizeOf66 _) Bb1 (Nat.le_of_ble_eq_true rfl))) (.tmp .here) ?_
          refine ⟨congrArg Ending.returned ?_, hK⟩
          rw [readF_cons hKK, if_neg hg1, if_neg hg2, ← hN, if_neg h3]
          rw [decide_eq_true (.inl k31)]; rfl


theorem read_any {w : World} {v : Value} {l : List UInt8} (h : SlB w v l) : Calls Try.prog 21 #[v] w fun e w' => e = .returned (readF l) ∧ Ch No w w' := by
  rcases h with ⟨rfl, rfl⟩ | ⟨b, o, s, cap, rfl, h1, h2, hs, hb⟩
  · exact read_nil _ _ _
  · cases l with
    | nil => exact read_nil _ _ _
    | cons c r =>
      obtain rfl := hs (by simp)
      exact read_cons b o cap c r h1 w hb

end Go.Proofs.Ytggngmmbpkoooaa.Hd
