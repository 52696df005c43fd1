/- Contracts of the comparing of floats, the program's and the document's. For every input. -/
import Derived.Test.YtodeldmdbeocfaaGreatDoorNmK
import Derived.Test.YtodeldmdbeocfaaGreatDoorNmM
import Derived.Test.YtodeldmdbeocfaaGreatDoorRt
namespace Go.Proofs.YtodeldmdbeocfaaGreatDoor.Nm
open Go Go.Proofs.YtodeldmdbeocfaaGreatDoor.Eng
set_option linter.unusedVariables false
set_option linter.unusedSimpArgs false
set_option maxRecDepth 8000

set_option maxHeartbeats 400000 in
theorem isNaN_any (a : Nat) (w : World) :
    Calls Tryz.prog 49 #[.float .f64 a] w fun e w' => e = .returned (.bool (isN a)) ∧ w' = w := by
  refine calls @Tryz.func49 rfl @Tryz.ntmps49 rfl ?_
  show JC _ _ _ _ _ [(0, .float .f64 a)] _
  refine JC.seq ?_
  refine JC.xp [(0, .float .f64 a), (2, .bool false)] (by kernel_rfl) ?_
  refine JE.seq ?_
  refine JC.seq ?_
  refine JC.region ?_
  refine JL.xp 2 [(2, .bool false), (3, .float .f64 a), (4, .float .f64 a)] (by kernel_rfl) ?_
  refine JL.val rfl (v := .bool (Ieee.double.order a a != some .eq)) (Run.bin (evE rfl) (evE rfl) rfl (by rfl)) ?_
  refine JL.xp 1 [(2, .bool (Ieee.double.order a a != some .eq))] (by kernel_rfl) ?_
  refine JL.nil ?_
  refine JE.seq ?_
  refine JC.ret ?_
  refine JE.retx (vs := [.bool (Ieee.double.order a a != some .eq)]) (hints := []) (ns := []) (Mem.init _) @Tryz.results49 (by kernel_rfl) ?_
  exact ⟨rfl, rfl⟩

set_option maxHeartbeats 400000 in
theorem place_any (a : Nat) (h : a < 18446744073709551616) (w : World) :
    Calls Tryz.prog 46 #[.float .f64 a] w fun e w' => e = .returned (.tuple #[.int .i64 (pl a).1, .int .i64 (pl a).2]) ∧ w' = w := by
  refine calls @Tryz.func46 rfl @Tryz.ntmps46 rfl ?_
  show JC _ _ _ _ _ [(0, .float .f64 a)] _
  refine JC.seq ?_
  refine JC.xp [(0, .float .f64 a), (2, .int .i64 0), (3, .int .i64 0)] (by kernel_rfl) ?_
  refine JE.seq ?_
  refine JC.seq ?_
  refine JC.seq ?_
  refine JC.region ?_
  refine JL.xp 1 [(0, .float .f64 a), (2, .int .i64 0), (3, .int .i64 0), (5, .float .f64 a)] (by kernel_rfl) ?_
  refine JL.call rfl (Run.callF (vs := [.float .f64 a]) @Tryz.call49 rfl) (isNaN_any a _) ?_
  rintro e w ⟨rfl, rfl⟩
  refine JRet.ret ?_
  refine JL.nil ?_
  refine JE.seq ?_
  refine JC.cond (evE rfl) (fun hn => ?_) (fun hn => ?_)
  · refine JC.seq ?_
    refine JC.xp [(0, .float .f64 a), (2, .int .i64 1), (3, .int .i64 0)] (by kernel_rfl) ?_
    refine JE.seq ?_
    refine JC.ret ?_
    refine JE.ret_seq ?_
    refine JE.retx (vs := [.int .i64 1, .int .i64 0]) (hints := []) (ns := []) (Mem.init _) @Tryz.results46 (by kernel_rfl) ?_
    exact ⟨by rw [pl, if_pos hn]; rfl, rfl⟩
  · refine JC.skip ?_
    refine JE.seq ?_
    refine JC.seq ?_
    refine JC.region ?_
    refine JL.xp 1 [(2, .int .i64 0), (3, .int .i64 0), (7, .float .f64 a)] (by kernel_rfl) ?_
    refine JL.val rfl (v := .int .u64 (a : Int)) (Run.callXq (vs := [.float .f64 a]) (by kernel_rfl) rfl) ?_
    refine JL.xp 2 [(2, .int .i64 0), (3, .int .i64 0), (4, .int .i64 (IntKind.i64.wrap (a : Int)))] (by kernel_rfl) ?_
    refine JL.nil ?_
    refine JE.seq ?_
    refine JC.seq ?_
    refine JC.seq ?_
    refine JC.xp [(2, .int .i64 0), (3, .int .i64 0), (4, .int .i64 (IntKind.i64.wrap (a : Int))), (11, .bool (decide (IntKind.i64.wrap (a : Int) < 0)))] (by kernel_rfl) ?_
    refine JE.seq ?_
    have hw : IntKind.i64.wrap (a : Int) = if a < 9223372036854775808 then (a : Int) else (a : Int) - 18446744073709551616 := by rw [wrap_i64m]; split <;> omega
    refine JC.cond (evE rfl) (fun h0 => ?_) (fun h0 => ?_)
    · have h0 := of_decide_eq_true h0
      refine JC.seq ?_
      refine JC.region ?_
      refine JL.xp 1 [(2, .int .i64 0), (3, .int .i64 0), (4, .int .i64 (IntKind.i64.wrap (a : Int))), (12, .int .i64 (IntKind.i64.wrap (a : Int)))] (by kernel_rfl) ?_
      have ha : ¬ a < 9223372036854775808 := by intro h; rw [hw, if_pos h] at h0; omega
      rw [hw, if_neg ha]
      have hb : bits .and .i64 ((a : Int) - 18446744073709551616) 9223372036854775807 = (a : Int) - 9223372036854775808 := and_neg (by omega) h
      refine JL.val rfl (v := .int .i64 ((a : Int) - 9223372036854775808)) (Run.bitop (evE rfl) (evE rfl) (by simp) hb) ?_
      refine JL.xi 3 [14] [(2, .int .i64 0), (3, .int .i64 ((-1) - ((a : Int) - 9223372036854775808))), (4, .int .i64 ((a : Int) - 18446744073709551616))] [(.i64, (-1) - ((a : Int) - 9223372036854775808))] (by kernel_rfl) (by simp only [Ins, kmin, kmax, and_true]; (repeat' apply And.intro) <;> omega) ?_
      refine JL.nil ?_
      refine JE.seq ?_
      refine JC.ret ?_
      refine JE.ret_seq ?_
      refine JE.retx (vs := [.int .i64 0, .int .i64 ((-1) - ((a : Int) - 9223372036854775808))]) (hints := []) (ns := []) (Mem.init _) @Tryz.results46 (by kernel_rfl) ?_
      exact ⟨by rw [pl, if_neg (by simp [hn]), if_neg ha]; rfl, rfl⟩
    · have h0 := of_decide_eq_false h0
      refine JC.skip ?_
      refine JE.seq ?_
      refine JC.seq ?_
      refine JC.xp [(2, .int .i64 0), (3, .int .i64 (IntKind.i64.wrap (a : Int)))] (by kernel_rfl) ?_
      refine JE.seq ?_
      refine JC.ret ?_
      refine JE.retx (vs := [.int .i64 0, .int .i64 (IntKind.i64.wrap (a : Int))]) (hints := []) (ns := []) (Mem.init _) @Tryz.results46 (by kernel_rfl) ?_
      rw [hw] at h0 ⊢
      by_cases ha : a < 9223372036854775808
      · exact ⟨by rw [if_pos ha, pl, if_neg (by simp [hn]), if_pos ha]; rfl, rfl⟩
      · rw [if_neg ha] at h0; omega

set_option maxHeartbeats 1000000 in
theorem compare_any (a b : Nat) (ha : a < 18446744073709551616) (hb : b < 18446744073709551616) (w : World) :
    Calls Tryz.prog 24 #[.float .f64 a, .float .f64 b] w fun e w' => e = .returned (.int .i64 (cmpP a b)) ∧ w' = w := by
  refine calls @Tryz.func24 rfl @Tryz.ntmps24 rfl ?_
  show JC _ _ _ _ _ [(0, .float .f64 a), (1, .float .f64 b)] _
  refine JC.seq ?_
  refine JC.xp [(0, .float .f64 a), (1, .float .f64 b), (4, .int .i64 0)] (by kernel_rfl) ?_
  refine JE.seq ?_
  refine JC.seq ?_
  refine JC.region ?_
  refine JL.xp 1 [(1, .float .f64 b), (4, .int .i64 0), (10, .float .f64 a)] (by kernel_rfl) ?_
  refine JL.call rfl (Run.callF (vs := [.float .f64 a]) @Tryz.call46 rfl) (place_any a ha _) ?_
  rintro e w ⟨rfl, rfl⟩
  refine JRet.ret ?_
  refine JL.xp 5 [(1, .float .f64 b), (4, .int .i64 0), (5, .int .i64 ((pl a).1)), (6, .int .i64 ((pl a).2))] (by kernel_rfl) ?_
  refine JL.nil ?_
  refine JE.seq ?_
  refine JC.seq ?_
  refine JC.region ?_
  refine JL.xp 1 [(4, .int .i64 0), (5, .int .i64 ((pl a).1)), (6, .int .i64 ((pl a).2)), (15, .float .f64 b)] (by kernel_rfl) ?_
  refine JL.call rfl (Run.callF (vs := [.float .f64 b]) @Tryz.call46 rfl) (place_any b hb _) ?_
  rintro e w ⟨rfl, rfl⟩
  refine JRet.ret ?_
  refine JL.xp 5 [(4, .int .i64 0), (5, .int .i64 ((pl a).1)), (6, .int .i64 ((pl a).2)), (7, .int .i64 ((pl b).1)), (8, .int .i64 ((pl b).2))] (by kernel_rfl) ?_
  refine JL.nil ?_
  refine JE.seq ?_
  refine JC.seq ?_
  refine JC.block ?_
  refine JC.seq ?_
  refine JC.region ?_
  refine JL.xp 4 [(4, .int .i64 0), (5, .int .i64 ((pl a).1)), (6, .int .i64 ((pl a).2)), (7, .int .i64 ((pl b).1)), (8, .int .i64 ((pl b).2)), (23, .bool (decide ((pl a).1 < (pl b).1)))] (by kernel_rfl) ?_
  refine JL.bsplit (b := decide ((pl a).1 < (pl b).1)) (fun g0 => ?_) (fun g0 => ?_)
  · refine JL.keep (L := [(4, .int .i64 0), (5, .int .i64 ((pl a).1)), (6, .int .i64 ((pl a).2)), (7, .int .i64 ((pl b).1)), (8, .int .i64 ((pl b).2)), (23, .bool true)]) (.cons (lk_look rfl) (.cons (lk_look rfl) (.cons (lk_look rfl) (.cons (lk_look rfl) (.cons (lk_look rfl) (.conse (lk_look rfl) (congrArg Value.bool g0) .nil)))))) ?_
    refine JL.xp 10 [(4, .int .i64 0), (5, .int .i64 ((pl a).1)), (6, .int .i64 ((pl a).2)), (7, .int .i64 ((pl b).1)), (8, .int .i64 ((pl b).2)), (19, .bool true)] (by kernel_rfl) ?_
    refine JL.nil ?_
    refine JE.seq ?_
    refine JC.condT (evE rfl) rfl ?_
    refine JC.seq ?_
    refine JC.xp [(4, .int .i64 (-1))] (by kernel_rfl) ?_
    refine JE.seq ?_
    refine JC.ret ?_
    refine JE.ret_blk ?_
    refine JE.ret_seq ?_
    refine JE.retx (vs := [.int .i64 (-1)]) (hints := []) (ns := []) (Mem.init _) @Tryz.results24 (by kernel_rfl) ?_
    exact ⟨congrArg (fun z => Ending.returned (.int .i64 z)) (by simp only [decide_eq_true_eq, decide_eq_false_iff_not, beq_iff_eq, beq_eq_false_iff_ne] at *; unfold cmpP; (repeat split) <;> first | rfl | omega), rfl⟩
  · refine JL.keep (L := [(4, .int .i64 0), (5, .int .i64 ((pl a).1)), (6, .int .i64 ((pl a).2)), (7, .int .i64 ((pl b).1)), (8, .int .i64 ((pl b).2)), (23, .bool false)]) (.cons (lk_look rfl) (.cons (lk_look rfl) (.cons (lk_look rfl) (.cons (lk_look rfl) (.cons (lk_look rfl) (.conse (lk_look rfl) (congrArg Value.bool g0) .nil)))))) ?_
    refine JL.xp 4 [(4, .int .i64 0), (5, .int .i64 ((pl a).1)), (6, .int .i64 ((pl a).2)), (7, .int .i64 ((pl b).1)), (8, .int .i64 ((pl b).2)), (23, .bool false), (27, .bool (((pl a).1 : Int) == ((pl b).1)))] (by kernel_rfl) ?_
    refine JL.bsplit (b := ((pl a).1 : Int) == ((pl b).1)) (fun g1 => ?_) (fun g1 => ?_)
    · refine JL.keep (L := [(4, .int .i64 0), (5, .int .i64 ((pl a).1)), (6, .int .i64 ((pl a).2)), (7, .int .i64 ((pl b).1)), (8, .int .i64 ((pl b).2)), (23, .bool false), (27, .bool true)]) (.cons (lk_look rfl) (.cons (lk_look rfl) (.cons (lk_look rfl) (.cons (lk_look rfl) (.cons (lk_look rfl) (.cons (lk_look rfl) (.conse (lk_look rfl) (congrArg Value.bool g1) .nil))))))) ?_
      refine JL.xp 6 [(4, .int .i64 0), (5, .int .i64 ((pl a).1)), (6, .int .i64 ((pl a).2)), (7, .int .i64 ((pl b).1)), (8, .int .i64 ((pl b).2)), (19, .bool (decide ((pl a).2 < (pl b).2)))] (by kernel_rfl) ?_
      refine JL.nil ?_
      refine JE.seq ?_
      refine JC.cond (evE rfl) (fun g2 => ?_) (fun g2 => ?_)
      · have g2 := of_decide_eq_true g2
        refine JC.seq ?_
        refine JC.xp [(4, .int .i64 (-1))] (by kernel_rfl) ?_
        refine JE.seq ?_
        refine JC.ret ?_
        refine JE.ret_blk ?_
        refine JE.ret_seq ?_
        refine JE.retx (vs := [.int .i64 (-1)]) (hints := []) (ns := []) (Mem.init _) @Tryz.results24 (by kernel_rfl) ?_
        exact ⟨congrArg (fun z => Ending.returned (.int .i64 z)) (by simp only [decide_eq_true_eq, decide_eq_false_iff_not, beq_iff_eq, beq_eq_false_iff_ne] at *; unfold cmpP; (repeat split) <;> first | rfl | omega), rfl⟩
      · have g2 := of_decide_eq_false g2
        refine JC.seq ?_
        refine JC.region ?_
        refine JL.xp 4 [(4, .int .i64 0), (6, .int .i64 ((pl a).2)), (8, .int .i64 ((pl b).2)), (37, .bool (decide ((pl b).1 < (pl a).1)))] (by kernel_rfl) ?_
        refine JL.bsplit (b := decide ((pl b).1 < (pl a).1)) (fun g3 => ?_) (fun g3 => ?_)
        · refine JL.keep (L := [(4, .int .i64 0), (6, .int .i64 ((pl a).2)), (8, .int .i64 ((pl b).2)), (37, .bool true)]) (.cons (lk_look rfl) (.cons (lk_look rfl) (.cons (lk_look rfl) (.conse (lk_look rfl) (congrArg Value.bool g3) .nil)))) ?_
          refine JL.xp 5 [(4, .int .i64 0), (33, .bool true)] (by kernel_rfl) ?_
          refine JL.nil ?_
          refine JE.seq ?_
          refine JC.condT (evE rfl) rfl ?_
          refine JC.seq ?_
          refine JC.xp [(4, .int .i64 1)] (by kernel_rfl) ?_
          refine JE.seq ?_
          refine JC.ret ?_
          refine JE.ret_blk ?_
          refine JE.ret_seq ?_
          refine JE.retx (vs := [.int .i64 1]) (hints := []) (ns := []) (Mem.init _) @Tryz.results24 (by kernel_rfl) ?_
          exact ⟨congrArg (fun z => Ending.returned (.int .i64 z)) (by simp only [decide_eq_true_eq, decide_eq_false_iff_not, beq_iff_eq, beq_eq_false_iff_ne] at *; unfold cmpP; (repeat split) <;> first | rfl | omega), rfl⟩
        · refine JL.keep (L := [(4, .int .i64 0), (6, .int .i64 ((pl a).2)), (8, .int .i64 ((pl b).2)), (37, .bool false)]) (.cons (lk_look rfl) (.cons (lk_look rfl) (.cons (lk_look rfl) (.conse (lk_look rfl) (congrArg Value.bool g3) .nil)))) ?_
          refine JL.xp 5 [(4, .int .i64 0), (33, .bool (decide ((pl b).2 < (pl a).2)))] (by kernel_rfl) ?_
          refine JL.nil ?_
          refine JE.seq ?_
          refine JC.cond (evE rfl) (fun g4 => ?_) (fun g4 => ?_)
          · have g4 := of_decide_eq_true g4
            refine JC.seq ?_
            refine JC.xp [(4, .int .i64 1)] (by kernel_rfl) ?_
            refine JE.seq ?_
            refine JC.ret ?_
            refine JE.ret_blk ?_
            refine JE.ret_seq ?_
            refine JE.retx (vs := [.int .i64 1]) (hints := []) (ns := []) (Mem.init _) @Tryz.results24 (by kernel_rfl) ?_
            exact ⟨congrArg (fun z => Ending.returned (.int .i64 z)) (by simp only [decide_eq_true_eq, decide_eq_false_iff_not, beq_iff_eq, beq_eq_false_iff_ne] at *; unfold cmpP; (repeat split) <;> first | rfl | omega), rfl⟩
          · have g4 := of_decide_eq_false g4
            refine JC.skip ?_
            refine JE.blk ?_
            refine JE.seq ?_
            refine JC.seq ?_
            refine JC.xp [(4, .int .i64 0)] (by kernel_rfl) ?_
            refine JE.seq ?_
            refine JC.ret ?_
            refine JE.retx (vs := [.int .i64 0]) (hints := []) (ns := []) (Mem.init _) @Tryz.results24 (by kernel_rfl) ?_
            exact ⟨congrArg (fun z => Ending.returned (.int .i64 z)) (by simp only [decide_eq_true_eq, decide_eq_false_iff_not, beq_iff_eq, beq_eq_false_iff_ne] at *; unfold cmpP; (repeat split) <;> first | rfl | omega), rfl⟩
    · refine JL.keep (L := [(4, .int .i64 0), (5, .int .i64 ((pl a).1)), (6, .int .i64 ((pl a).2)), (7, .int .i64 ((pl b).1)), (8, .int .i64 ((pl b).2)), (23, .bool false), (27, .bool false)]) (.cons (lk_look rfl) (.cons (lk_look rfl) (.cons (lk_look rfl) (.cons (lk_look rfl) (.cons (lk_look rfl) (.cons (lk_look rfl) (.conse (lk_look rfl) (congrArg Value.bool g1) .nil))))))) ?_
      refine JL.xp 6 [(4, .int .i64 0), (5, .int .i64 ((pl a).1)), (6, .int .i64 ((pl a).2)), (7, .int .i64 ((pl b).1)), (8, .int .i64 ((pl b).2)), (19, .bool false)] (by kernel_rfl) ?_
      refine JL.nil ?_
      refine JE.seq ?_
      refine JC.condF (evE rfl) rfl ?_
      refine JC.seq ?_
      refine JC.region ?_
      refine JL.xp 4 [(4, .int .i64 0), (6, .int .i64 ((pl a).2)), (8, .int .i64 ((pl b).2)), (37, .bool (decide ((pl b).1 < (pl a).1)))] (by kernel_rfl) ?_
      refine JL.bsplit (b := decide ((pl b).1 < (pl a).1)) (fun g2 => ?_) (fun g2 => ?_)
      · refine JL.keep (L := [(4, .int .i64 0), (6, .int .i64 ((pl a).2)), (8, .int .i64 ((pl b).2)), (37, .bool true)]) (.cons (lk_look rfl) (.cons (lk_look rfl) (.cons (lk_look rfl) (.conse (lk_look rfl) (congrArg Value.bool g2) .nil)))) ?_
        refine JL.xp 5 [(4, .int .i64 0), (33, .bool true)] (by kernel_rfl) ?_
        refine JL.nil ?_
        refine JE.seq ?_
        refine JC.condT (evE rfl) rfl ?_
        refine JC.seq ?_
        refine JC.xp [(4, .int .i64 1)] (by kernel_rfl) ?_
        refine JE.seq ?_
        refine JC.ret ?_
        refine JE.ret_blk ?_
        refine JE.ret_seq ?_
        refine JE.retx (vs := [.int .i64 1]) (hints := []) (ns := []) (Mem.init _) @Tryz.results24 (by kernel_rfl) ?_
        exact ⟨congrArg (fun z => Ending.returned (.int .i64 z)) (by simp only [decide_eq_true_eq, decide_eq_false_iff_not, beq_iff_eq, beq_eq_false_iff_ne] at *; unfold cmpP; (repeat split) <;> first | rfl | omega), rfl⟩
      · refine JL.keep (L := [(4, .int .i64 0), (6, .int .i64 ((pl a).2)), (8, .int .i64 ((pl b).2)), (37, .bool false)]) (.cons (lk_look rfl) (.cons (lk_look rfl) (.cons (lk_look rfl) (.conse (lk_look rfl) (congrArg Value.bool g2) .nil)))) ?_
        refine JL.xp 5 [(4, .int .i64 0), (33, .bool (decide ((pl b).2 < (pl a).2)))] (by kernel_rfl) ?_
        refine JL.nil ?_
        refine JE.seq ?_
        refine JC.cond (evE rfl) (fun g3 => ?_) (fun g3 => ?_)
        · have g3 := of_decide_eq_true g3
          refine JC.seq ?_
          refine JC.xp [(4, .int .i64 1)] (by kernel_rfl) ?_
          refine JE.seq ?_
          refine JC.ret ?_
          refine JE.ret_blk ?_
          refine JE.ret_seq ?_
          refine JE.retx (vs := [.int .i64 1]) (hints := []) (ns := []) (Mem.init _) @Tryz.results24 (by kernel_rfl) ?_
          exact ⟨congrArg (fun z => Ending.returned (.int .i64 z)) (by simp only [decide_eq_true_eq, decide_eq_false_iff_not, beq_iff_eq, beq_eq_false_iff_ne] at *; unfold cmpP; (repeat split) <;> first | rfl | omega), rfl⟩
        · have g3 := of_decide_eq_false g3
          refine JC.skip ?_
          refine JE.blk ?_
          refine JE.seq ?_
          refine JC.seq ?_
          refine JC.xp [(4, .int .i64 0)] (by kernel_rfl) ?_
          refine JE.seq ?_
          refine JC.ret ?_
          refine JE.retx (vs := [.int .i64 0]) (hints := []) (ns := []) (Mem.init _) @Tryz.results24 (by kernel_rfl) ?_
          exact ⟨congrArg (fun z => Ending.returned (.int .i64 z)) (by simp only [decide_eq_true_eq, decide_eq_false_iff_not, beq_iff_eq, beq_eq_false_iff_ne] at *; unfold cmpP; (repeat split) <;> first | rfl | omega), rfl⟩

set_option maxHeartbeats 2000000 in
theorem parts_any (b : Nat) (h : b < 18446744073709551616) (w : World) :
    Calls Tryz.prog 36 #[.agg #[.int .i64 11, .int .i64 52], .int .u64 (b : Int)] w fun e w' => ∃ ng m x, e = .returned (.tuple #[.int .i64 (cls b), .bool ng, .int .u64 m, .int .i64 x]) ∧ Ch No w w' := by
  have hM : Mem w [] (cellsOf w) [] w := Mem.init w
  refine calls @Tryz.func36 rfl @Tryz.ntmps36 rfl ?_
  show JC _ _ _ _ _ [(0, .agg #[.int .i64 11, .int .i64 52]), (1, .int .u64 (b : Int))] _
  refine JC.seq ?_
  refine JC.x1 (hints := []) (ns := (fun b1 => [])) (olds := (fun b1 => [])) (ones := (fun b1 => [])) (ex := []) (ins := (fun b1 => [])) (F' := (fun b1 => [(1, .int .u64 (b : Int)), (2, .pointer (some ⟨b1, 0, none⟩)), (4, .int .i64 0), (5, .bool false), (6, .int .u64 0), (7, .int .i64 0)])) (H' := (fun b1 => [(b1, 31, [.int .i64 11, .int .i64 52])])) hM (fun b1 => by kernel_rfl) (fun b1 => Olds.nil) (fun b1 => Ones.nil) (fun b1 => trivial) (fun b1 w2 hg_b1 hc3 hM => ?_)
  refine JE.seq ?_
  refine JC.seq ?_
  refine JC.region ?_
  refine JL.xq 2 (hints := [.own 0, .own 0]) (ns := [b1, b1]) (olds := []) (ex := []) (ins := []) (F' := [(1, .int .u64 (b : Int)), (2, .pointer (some ⟨b1, 0, none⟩)), (4, .int .i64 0), (5, .bool false), (6, .int .u64 0), (7, .int .i64 0), (10, .int .u64 (b : Int)), (11, .agg #[.int .i64 11, .int .i64 52])]) hM (by kernel_rfl) Olds.nil trivial ?_
  refine JL.call rfl (Run.callF (vs := [.agg #[.int .i64 11, .int .i64 52]]) @Tryz.call43 rfl) (sign_run _) ?_
  rintro e w4 ⟨rfl, hc⟩
  refine JRet.ret ?_
  replace hM := hM.no hc
  refine JL.xp 3 [(1, .int .u64 (b : Int)), (2, .pointer (some ⟨b1, 0, none⟩)), (4, .int .i64 0), (5, .bool ((bits .and .u64 (b : Int) 9223372036854775808 : Int) != 0)), (6, .int .u64 0), (7, .int .i64 0)] (by kernel_rfl) ?_
  refine JL.nil ?_
  refine JE.seq ?_
  refine JC.seq ?_
  refine JC.region ?_
  refine JL.xq 6 (hints := [.own 0]) (ns := [b1]) (olds := []) (ex := []) (ins := []) (F' := [(1, .int .u64 (b : Int)), (2, .pointer (some ⟨b1, 0, none⟩)), (4, .int .i64 0), (5, .bool ((bits .and .u64 (b : Int) 9223372036854775808 : Int) != 0)), (6, .int .u64 0), (7, .int .i64 0), (15, .int .u64 (b : Int)), (20, .int .u64 4503599627370495)]) hM (by kernel_rfl) Olds.nil trivial ?_
  refine JL.val rfl (v := .int .u64 ((b : Int) % 4503599627370496)) (Run.bitop (evE rfl) (evE rfl) (by simp) (and_u64 52 (by decide) (by decide) (by decide) (by omega) (by omega))) ?_
  refine JL.xp 1 [(1, .int .u64 (b : Int)), (2, .pointer (some ⟨b1, 0, none⟩)), (4, .int .i64 0), (5, .bool ((bits .and .u64 (b : Int) 9223372036854775808 : Int) != 0)), (6, .int .u64 0), (7, .int .i64 0), (8, .int .u64 ((b : Int) % 4503599627370496))] (by kernel_rfl) ?_
  refine JL.nil ?_
  refine JE.seq ?_
  refine JC.seq ?_
  refine JC.anyx 11 mixed rfl hM (fun w5 hd6 hM => ?_)
  refine JA.xt 6 [0, 1, 2, 3, 5] rfl (by kernel_rfl) (hints := [.own 0, .own 0, .own 0]) (ns := [b1, b1, b1]) (olds := []) (ex := []) (ins := []) (L' := #[true, true, true, true, false, true, false, false, false, false, false]) (F' := [(2, .pointer (some ⟨b1, 0, none⟩)), (4, .int .i64 0), (5, .bool ((bits .and .u64 (b : Int) 9223372036854775808 : Int) != 0)), (6, .int .u64 0), (7, .int .i64 0), (8, .int .u64 ((b : Int) % 4503599627370496)), (22, .int .u64 (b : Int)), (25, .int .u64 52), (27, .agg #[.int .i64 11, .int .i64 52])]) (by kernel_rfl) Olds.nil trivial ?_
  refine JA.take 4 (by kernel_rfl) (by rfl) (by kernel_rfl) (by kernel_rfl) (L := #[true, true, true, true, true, true, false, false, false, false, false]) rfl rfl (v := .int .u64 ((b : Int) / 4503599627370496)) (fun w' hI => Run.shr (m := 4503599627370496) (evE rfl) (evE rfl) (by decide) (by decide)) ?_
  refine JA.xc 6 hM (by rfl) (by kernel_rfl) (L' := #[true, true, true, true, true, true, true, false, false, false, false]) rfl rfl (Run.callF (vs := [.agg #[.int .i64 11, .int .i64 52]]) @Tryz.call63 rfl) (all_run _) ?_
  rintro e w7 ⟨rfl, hc⟩
  refine ⟨_, rfl, ?_⟩
  replace hM := hM.no hc
  refine JA.xt 3 [7] rfl (by kernel_rfl) (hints := []) (ns := []) (olds := []) (ex := []) (ins := []) (L' := #[true, true, true, true, true, true, true, true, false, false, false]) (F' := [(2, .pointer (some ⟨b1, 0, none⟩)), (4, .int .i64 0), (5, .bool ((bits .and .u64 (b : Int) 9223372036854775808 : Int) != 0)), (6, .int .u64 0), (7, .int .i64 0), (8, .int .u64 ((b : Int) % 4503599627370496)), (26, .int .u64 ((b : Int) / 4503599627370496)), (29, .int .u64 2047)]) (by kernel_rfl) Olds.nil trivial ?_
  refine JA.take 8 (by kernel_rfl) (by rfl) (by kernel_rfl) (by kernel_rfl) (L := #[true, true, true, true, true, true, true, true, true, false, false]) rfl rfl (v := .int .u64 ((b : Int) / 4503599627370496 % 2048)) (fun w' hI => Run.bitop (evE rfl) (evE rfl) (by simp) (and_u64 11 (by decide) (by decide) (by decide) (by omega) (by omega))) ?_
  refine JA.xt 0 [9, 10] rfl (by kernel_rfl) (hints := []) (ns := []) (olds := []) (ex := [31]) (ins := [(.i64, ((b : Int) / 4503599627370496 % 2048))]) (L' := #[true, true, true, true, true, true, true, true, true, true, true]) (F' := [(2, .pointer (some ⟨b1, 0, none⟩)), (4, .int .i64 0), (5, .bool ((bits .and .u64 (b : Int) 9223372036854775808 : Int) != 0)), (6, .int .u64 0), (7, .int .i64 0), (8, .int .u64 ((b : Int) % 4503599627370496)), (9, .int .i64 ((b : Int) / 4503599627370496 % 2048))]) (by kernel_rfl) Olds.nil (by simp only [Ins, kmin, kmax, and_true]; (repeat' apply And.intro) <;> omega) ?_
  refine JA.xdone hM (by kernel_rfl) ?_
  refine JE.seq ?_
  refine JC.seq ?_
  refine JC.seq ?_
  refine JC.region ?_
  refine JL.xq 2 (hints := [.own 0, .own 0]) (ns := [b1, b1]) (olds := []) (ex := []) (ins := []) (F' := [(2, .pointer (some ⟨b1, 0, none⟩)), (4, .int .i64 0), (5, .bool ((bits .and .u64 (b : Int) 9223372036854775808 : Int) != 0)), (6, .int .u64 0), (7, .int .i64 0), (8, .int .u64 ((b : Int) % 4503599627370496)), (9, .int .i64 ((b : Int) / 4503599627370496 % 2048)), (32, .int .i64 ((b : Int) / 4503599627370496 % 2048)), (33, .agg #[.int .i64 11, .int .i64 52])]) hM (by kernel_rfl) Olds.nil trivial ?_
  refine JL.call rfl (Run.callF (vs := [.agg #[.int .i64 11, .int .i64 52]]) @Tryz.call63 rfl) (all_run _) ?_
  rintro e w8 ⟨rfl, hc⟩
  refine JRet.ret ?_
  replace hM := hM.no hc
  refine JL.xp 1 [(2, .pointer (some ⟨b1, 0, none⟩)), (4, .int .i64 0), (5, .bool ((bits .and .u64 (b : Int) 9223372036854775808 : Int) != 0)), (6, .int .u64 0), (7, .int .i64 0), (8, .int .u64 ((b : Int) % 4503599627370496)), (9, .int .i64 ((b : Int) / 4503599627370496 % 2048)), (35, .bool ((((b : Int) / 4503599627370496 % 2048) : Int) == 2047))] (by kernel_rfl) ?_
  refine JL.nil ?_
  refine JE.seq ?_
  refine JC.cond (evE rfl) (fun h1 => ?_) (fun h1 => ?_)
  · refine JC.seq ?_
    refine JC.seq ?_
    refine JC.xp [(2, .pointer (some ⟨b1, 0, none⟩)), (4, .int .i64 0), (5, .bool ((bits .and .u64 (b : Int) 9223372036854775808 : Int) != 0)), (6, .int .u64 0), (7, .int .i64 0), (8, .int .u64 ((b : Int) % 4503599627370496)), (9, .int .i64 ((b : Int) / 4503599627370496 % 2048)), (37, .bool ((((b : Int) % 4503599627370496) : Int) != 0))] (by kernel_rfl) ?_
    refine JE.seq ?_
    refine JC.cond (evE rfl) (fun h2 => ?_) (fun h2 => ?_)
    · refine JC.seq ?_
      refine JC.xp [(2, .pointer (some ⟨b1, 0, none⟩)), (4, .int .i64 2), (5, .bool ((bits .and .u64 (b : Int) 9223372036854775808 : Int) != 0)), (6, .int .u64 0), (7, .int .i64 0), (8, .int .u64 ((b : Int) % 4503599627370496)), (9, .int .i64 ((b : Int) / 4503599627370496 % 2048))] (by kernel_rfl) ?_
      refine JE.seq ?_
      refine JC.ret ?_
      refine JE.ret_seq ?_
      refine JE.ret_seq ?_
      refine JE.retx (vs := [.int .i64 2, .bool ((bits .and .u64 (b : Int) 9223372036854775808 : Int) != 0), .int .u64 0, .int .i64 0]) (hints := []) (ns := []) (Mem.init _) @Tryz.results36 (by kernel_rfl) ?_
      exact ⟨_, _, _, by rw [cls_none h1 h2]; rfl, hM.chNo⟩
    · refine JC.skip ?_
      refine JE.seq ?_
      refine JC.seq ?_
      refine JC.xp [(2, .pointer (some ⟨b1, 0, none⟩)), (4, .int .i64 1), (5, .bool ((bits .and .u64 (b : Int) 9223372036854775808 : Int) != 0)), (6, .int .u64 0), (7, .int .i64 0), (8, .int .u64 ((b : Int) % 4503599627370496)), (9, .int .i64 ((b : Int) / 4503599627370496 % 2048))] (by kernel_rfl) ?_
      refine JE.seq ?_
      refine JC.ret ?_
      refine JE.ret_seq ?_
      refine JE.retx (vs := [.int .i64 1, .bool ((bits .and .u64 (b : Int) 9223372036854775808 : Int) != 0), .int .u64 0, .int .i64 0]) (hints := []) (ns := []) (Mem.init _) @Tryz.results36 (by kernel_rfl) ?_
      exact ⟨_, _, _, by rw [cls_inf h1 h2]; rfl, hM.chNo⟩
  · refine JC.skip ?_
    refine JE.seq ?_
    refine JC.seq ?_
    refine JC.seq ?_
    refine JC.xp [(2, .pointer (some ⟨b1, 0, none⟩)), (4, .int .i64 0), (5, .bool ((bits .and .u64 (b : Int) 9223372036854775808 : Int) != 0)), (6, .int .u64 0), (7, .int .i64 0), (8, .int .u64 ((b : Int) % 4503599627370496)), (9, .int .i64 ((b : Int) / 4503599627370496 % 2048)), (41, .bool ((((b : Int) / 4503599627370496 % 2048) : Int) == 0))] (by kernel_rfl) ?_
    refine JE.seq ?_
    refine JC.cond (evE rfl) (fun h3 => ?_) (fun h3 => ?_)
    · refine JC.seq ?_
      refine JC.anyx 12 mixed rfl hM (fun w9 hd10 hM => ?_)
      refine JA.xt 7 [0, 1, 2, 5, 6] rfl (by kernel_rfl) (hints := [.own 0, .own 0, .own 0]) (ns := [b1, b1, b1]) (olds := []) (ex := []) (ins := []) (L' := #[true, true, true, false, false, true, true, false, false, false, false, false]) (F' := [(2, .pointer (some ⟨b1, 0, none⟩)), (4, .int .i64 0), (5, .bool ((bits .and .u64 (b : Int) 9223372036854775808 : Int) != 0)), (6, .int .u64 0), (7, .int .i64 0), (8, .int .u64 ((b : Int) % 4503599627370496)), (9, .int .i64 ((b : Int) / 4503599627370496 % 2048)), (42, .bool ((bits .and .u64 (b : Int) 9223372036854775808 : Int) != 0)), (43, .int .u64 ((b : Int) % 4503599627370496)), (44, .agg #[.int .i64 11, .int .i64 52]), (48, .int .i64 52)]) (by kernel_rfl) Olds.nil trivial ?_
      refine JA.xc 3 hM (by rfl) (by kernel_rfl) (L' := #[true, true, true, true, false, true, true, false, false, false, false, false]) rfl rfl (Run.callF (vs := [.agg #[.int .i64 11, .int .i64 52]]) @Tryz.call64 rfl) (bias_run _) ?_
      rintro e w11 ⟨rfl, hc⟩
      refine ⟨_, rfl, ?_⟩
      replace hM := hM.no hc
      refine JA.xt 0 [4, 7, 8, 9, 10, 11] rfl (by kernel_rfl) (hints := []) (ns := []) (olds := []) (ex := []) (ins := []) (L' := #[true, true, true, true, true, true, true, true, true, true, true, true]) (F' := [(2, .pointer (some ⟨b1, 0, none⟩)), (4, .int .i64 0), (5, .bool ((bits .and .u64 (b : Int) 9223372036854775808 : Int) != 0)), (6, .int .u64 ((b : Int) % 4503599627370496)), (7, .int .i64 (-1074)), (8, .int .u64 ((b : Int) % 4503599627370496)), (9, .int .i64 ((b : Int) / 4503599627370496 % 2048))]) (by kernel_rfl) Olds.nil trivial ?_
      refine JA.xdone hM (by kernel_rfl) ?_
      refine JE.seq ?_
      refine JC.ret ?_
      refine JE.ret_seq ?_
      refine JE.retx (vs := [.int .i64 0, .bool ((bits .and .u64 (b : Int) 9223372036854775808 : Int) != 0), .int .u64 ((b : Int) % 4503599627370496), .int .i64 (-1074)]) (hints := []) (ns := []) (Mem.init _) @Tryz.results36 (by kernel_rfl) ?_
      exact ⟨_, _, _, by rw [cls_fin h1]; rfl, hM.chNo⟩
    · refine JC.skip ?_
      refine JE.seq ?_
      refine JC.seq ?_
      refine JC.anyx 18 mixed rfl hM (fun w12 hd13 hM => ?_)
      refine JA.xt 7 [0, 1, 2, 3, 4, 5, 6, 7, 8, 11, 12] rfl (by kernel_rfl) (hints := [.own 0, .own 0, .own 0, .own 0]) (ns := [b1, b1, b1, b1]) (olds := []) (ex := []) (ins := []) (L' := #[true, true, true, true, true, true, true, true, true, false, false, true, true, false, false, false, false, false]) (F' := [(4, .int .i64 0), (5, .bool ((bits .and .u64 (b : Int) 9223372036854775808 : Int) != 0)), (6, .int .u64 0), (7, .int .i64 0), (50, .bool ((bits .and .u64 (b : Int) 9223372036854775808 : Int) != 0)), (56, .int .u64 (IntKind.u64.wrap (((b : Int) % 4503599627370496) + 4503599627370496))), (57, .int .i64 ((b : Int) / 4503599627370496 % 2048)), (58, .agg #[.int .i64 11, .int .i64 52]), (62, .int .i64 52)]) (by kernel_rfl) Olds.nil trivial ?_
      refine JA.xc 9 hM (by rfl) (by kernel_rfl) (L' := #[true, true, true, true, true, true, true, true, true, true, false, true, true, false, false, false, false, false]) rfl rfl (Run.callF (vs := [.agg #[.int .i64 11, .int .i64 52]]) @Tryz.call64 rfl) (bias_run _) ?_
      rintro e w14 ⟨rfl, hc⟩
      refine ⟨_, rfl, ?_⟩
      replace hM := hM.no hc
      refine JA.xt 0 [10, 13, 14, 15, 16, 17] rfl (by kernel_rfl) (hints := []) (ns := []) (olds := []) (ex := [60, 63]) (ins := [(.i64, (((b : Int) / 4503599627370496 % 2048) - 1023) - 52), (.i64, ((b : Int) / 4503599627370496 % 2048) - 1023)]) (L' := #[true, true, true, true, true, true, true, true, true, true, true, true, true, true, true, true, true, true]) (F' := [(4, .int .i64 0), (5, .bool ((bits .and .u64 (b : Int) 9223372036854775808 : Int) != 0)), (6, .int .u64 (IntKind.u64.wrap (((b : Int) % 4503599627370496) + 4503599627370496))), (7, .int .i64 ((((b : Int) / 4503599627370496 % 2048) - 1023) - 52))]) (by kernel_rfl) Olds.nil (by simp only [Ins, kmin, kmax, and_true]; (repeat' apply And.intro) <;> omega) ?_
      refine JA.xdone hM (by kernel_rfl) ?_
      refine JE.seq ?_
      refine JC.ret ?_
      refine JE.retx (vs := [.int .i64 0, .bool ((bits .and .u64 (b : Int) 9223372036854775808 : Int) != 0), .int .u64 (IntKind.u64.wrap (((b : Int) % 4503599627370496) + 4503599627370496)), .int .i64 ((((b : Int) / 4503599627370496 % 2048) - 1023) - 52)]) (hints := []) (ns := []) (Mem.init _) @Tryz.results36 (by kernel_rfl) ?_
      exact ⟨_, _, _, by rw [cls_fin h1]; rfl, hM.chNo⟩

set_option maxHeartbeats 400000 in
theorem isNone_any (b : Nat) (h : b < 18446744073709551616) (w : World) :
    Calls Tryz.prog 44 #[.agg #[.int .i64 11, .int .i64 52], .int .u64 (b : Int)] w fun e w' => e = .returned (.bool (isN b)) ∧ Ch No w w' := by
  have hM : Mem w [] (cellsOf w) [] w := Mem.init w
  refine calls @Tryz.func44 rfl @Tryz.ntmps44 rfl ?_
  show JC _ _ _ _ _ [(0, .agg #[.int .i64 11, .int .i64 52]), (1, .int .u64 (b : Int))] _
  refine JC.seq ?_
  refine JC.x1 (hints := []) (ns := (fun b1 => [])) (olds := (fun b1 => [])) (ones := (fun b1 => [])) (ex := []) (ins := (fun b1 => [])) (F' := (fun b1 => [(1, .int .u64 (b : Int)), (2, .pointer (some ⟨b1, 0, none⟩)), (4, .bool false)])) (H' := (fun b1 => [(b1, 31, [.int .i64 11, .int .i64 52])])) hM (fun b1 => by kernel_rfl) (fun b1 => Olds.nil) (fun b1 => Ones.nil) (fun b1 => trivial) (fun b1 w2 hg_b1 hc3 hM => ?_)
  refine JE.seq ?_
  refine JC.seq ?_
  refine JC.region ?_
  refine JL.xq 2 (hints := [.own 0, .own 0]) (ns := [b1, b1]) (olds := []) (ex := []) (ins := []) (F' := [(4, .bool false), (10, .agg #[.int .i64 11, .int .i64 52]), (11, .int .u64 (b : Int))]) hM (by kernel_rfl) Olds.nil trivial ?_
  refine JL.call rfl (Run.callF (vs := [.agg #[.int .i64 11, .int .i64 52], .int .u64 (b : Int)]) @Tryz.call36 rfl) (parts_any b h _) ?_
  rintro e w4 ⟨ng, m, xx, rfl, hc⟩
  refine JRet.ret ?_
  replace hM := hM.no hc
  refine JL.xp 9 [(4, .bool false), (5, .int .i64 (cls b))] (by kernel_rfl) ?_
  refine JL.nil ?_
  refine JE.seq ?_
  refine JC.seq ?_
  refine JC.xp [(4, .bool ((cls b : Int) == 2))] (by kernel_rfl) ?_
  refine JE.seq ?_
  refine JC.ret ?_
  refine JE.retx (vs := [.bool ((cls b : Int) == 2)]) (hints := []) (ns := []) (Mem.init _) @Tryz.results44 (by kernel_rfl) ?_
  exact ⟨by rw [cls_isN h]; rfl, hM.chNo⟩

set_option maxHeartbeats 400000 in
theorem rank_any (b : Nat) (h : b < 18446744073709551616) (w : World) :
    Calls Tryz.prog 47 #[.int .u64 (b : Int)] w fun e w' => e = .returned (.int .u64 (rk b)) ∧ Ch No w w' := by
  have hM : Mem w [] (cellsOf w) [] w := Mem.init w
  refine calls @Tryz.func47 rfl @Tryz.ntmps47 rfl ?_
  show JC _ _ _ _ _ [(0, .int .u64 (b : Int))] _
  refine JC.seq ?_
  refine JC.xp [(0, .int .u64 (b : Int)), (2, .int .u64 0)] (by kernel_rfl) ?_
  refine JE.seq ?_
  refine JC.seq ?_
  refine JC.region ?_
  refine JL.call rfl (Run.callF (vs := []) @Tryz.call11 rfl) (f64_run _) ?_
  rintro e w1 ⟨rfl, hc⟩
  refine JRet.ret ?_
  replace hM := hM.no hc
  refine JL.call rfl (Run.callF (vs := [.agg #[.int .i64 11, .int .i64 52]]) @Tryz.call43 rfl) (sign_run _) ?_
  rintro e w2 ⟨rfl, hc⟩
  refine JRet.ret ?_
  replace hM := hM.no hc
  refine JL.xp 1 [(0, .int .u64 (b : Int)), (2, .int .u64 0), (3, .int .u64 9223372036854775808)] (by kernel_rfl) ?_
  refine JL.nil ?_
  refine JE.seq ?_
  refine JC.seq ?_
  refine JC.seq ?_
  refine JC.region ?_
  refine JL.call rfl (Run.callF (vs := []) @Tryz.call11 rfl) (f64_run _) ?_
  rintro e w3 ⟨rfl, hc⟩
  refine JRet.ret ?_
  replace hM := hM.no hc
  refine JL.xp 1 [(0, .int .u64 (b : Int)), (2, .int .u64 0), (3, .int .u64 9223372036854775808), (6, .agg #[.int .i64 11, .int .i64 52]), (7, .int .u64 (b : Int))] (by kernel_rfl) ?_
  refine JL.call rfl (Run.callF (vs := [.agg #[.int .i64 11, .int .i64 52], .int .u64 (b : Int)]) @Tryz.call44 rfl) (isNone_any b h _) ?_
  rintro e w4 ⟨rfl, hc⟩
  refine JRet.ret ?_
  replace hM := hM.no hc
  refine JL.nil ?_
  refine JE.seq ?_
  refine JC.cond (evE rfl) (fun g0 => ?_) (fun g0 => ?_)
  · refine JC.seq ?_
    refine JC.xp [(0, .int .u64 (b : Int)), (2, .int .u64 18446744073709551615), (3, .int .u64 9223372036854775808)] (by kernel_rfl) ?_
    refine JE.seq ?_
    refine JC.ret ?_
    refine JE.ret_seq ?_
    refine JE.retx (vs := [.int .u64 18446744073709551615]) (hints := []) (ns := []) (Mem.init _) @Tryz.results47 (by kernel_rfl) ?_
    exact ⟨congrArg (fun z => Ending.returned (.int .u64 z)) (by unfold rk; simp only [g0, if_true, if_false, Bool.false_eq_true]; try ((repeat split) <;> first | rfl | omega)), hM.chNo⟩
  · refine JC.skip ?_
    refine JE.seq ?_
    refine JC.seq ?_
    refine JC.seq ?_
    refine JC.xp [(0, .int .u64 (b : Int)), (2, .int .u64 0), (3, .int .u64 9223372036854775808), (11, .bool (decide (9223372036854775808 ≤ (b : Int))))] (by kernel_rfl) ?_
    refine JE.seq ?_
    refine JC.cond (evE rfl) (fun g1 => ?_) (fun g1 => ?_)
    · have g1 := of_decide_eq_true g1
      refine JC.seq ?_
      refine JC.xi [13] [(0, .int .u64 (b : Int)), (2, .int .u64 (18446744073709551615 - (b : Int))), (3, .int .u64 9223372036854775808)] [(.u64, 18446744073709551615 - (b : Int))] (by kernel_rfl) (by simp only [Ins, kmin, kmax, and_true]; (repeat' apply And.intro) <;> omega) ?_
      refine JE.seq ?_
      refine JC.ret ?_
      refine JE.ret_seq ?_
      refine JE.retx (vs := [.int .u64 (18446744073709551615 - (b : Int))]) (hints := []) (ns := []) (Mem.init _) @Tryz.results47 (by kernel_rfl) ?_
      exact ⟨congrArg (fun z => Ending.returned (.int .u64 z)) (by unfold rk; simp only [g0, if_true, if_false, Bool.false_eq_true]; try ((repeat split) <;> first | rfl | omega)), hM.chNo⟩
    · have g1 := of_decide_eq_false g1
      refine JC.skip ?_
      refine JE.seq ?_
      refine JC.seq ?_
      refine JC.xi [16] [(2, .int .u64 (9223372036854775808 + (b : Int)))] [(.u64, 9223372036854775808 + (b : Int))] (by kernel_rfl) (by simp only [Ins, kmin, kmax, and_true]; (repeat' apply And.intro) <;> omega) ?_
      refine JE.seq ?_
      refine JC.ret ?_
      refine JE.retx (vs := [.int .u64 (9223372036854775808 + (b : Int))]) (hints := []) (ns := []) (Mem.init _) @Tryz.results47 (by kernel_rfl) ?_
      exact ⟨congrArg (fun z => Ending.returned (.int .u64 z)) (by unfold rk; simp only [g0, if_true, if_false, Bool.false_eq_true]; try ((repeat split) <;> first | rfl | omega)), hM.chNo⟩

set_option maxHeartbeats 400000 in
theorem rcompare_any (a b : Nat) (ha : a < 18446744073709551616) (hb : b < 18446744073709551616) (w : World) :
    Calls Tryz.prog 25 #[.int .u64 (a : Int), .int .u64 (b : Int)] w fun e w' => e = .returned (.int .i64 (cmpR a b)) ∧ Ch No w w' := by
  have hM : Mem w [] (cellsOf w) [] w := Mem.init w
  refine calls @Tryz.func25 rfl @Tryz.ntmps25 rfl ?_
  show JC _ _ _ _ _ [(0, .int .u64 (a : Int)), (1, .int .u64 (b : Int))] _
  refine JC.seq ?_
  refine JC.xp [(0, .int .u64 (a : Int)), (1, .int .u64 (b : Int)), (4, .int .i64 0)] (by kernel_rfl) ?_
  refine JE.seq ?_
  refine JC.seq ?_
  refine JC.region ?_
  refine JL.xp 1 [(1, .int .u64 (b : Int)), (4, .int .i64 0), (7, .int .u64 (a : Int))] (by kernel_rfl) ?_
  refine JL.call rfl (Run.callF (vs := [.int .u64 (a : Int)]) @Tryz.call47 rfl) (rank_any a ha _) ?_
  rintro e w1 ⟨rfl, hc⟩
  refine JRet.ret ?_
  replace hM := hM.no hc
  refine JL.xp 1 [(1, .int .u64 (b : Int)), (4, .int .i64 0), (5, .int .u64 (rk a))] (by kernel_rfl) ?_
  refine JL.nil ?_
  refine JE.seq ?_
  refine JC.seq ?_
  refine JC.region ?_
  refine JL.xp 1 [(4, .int .i64 0), (5, .int .u64 (rk a)), (9, .int .u64 (b : Int))] (by kernel_rfl) ?_
  refine JL.call rfl (Run.callF (vs := [.int .u64 (b : Int)]) @Tryz.call47 rfl) (rank_any b hb _) ?_
  rintro e w2 ⟨rfl, hc⟩
  refine JRet.ret ?_
  replace hM := hM.no hc
  refine JL.xp 1 [(4, .int .i64 0), (5, .int .u64 (rk a)), (6, .int .u64 (rk b))] (by kernel_rfl) ?_
  refine JL.nil ?_
  refine JE.seq ?_
  refine JC.seq ?_
  refine JC.seq ?_
  refine JC.xp [(4, .int .i64 0), (5, .int .u64 (rk a)), (6, .int .u64 (rk b)), (13, .bool (decide (rk a < rk b)))] (by kernel_rfl) ?_
  refine JE.seq ?_
  refine JC.cond (evE rfl) (fun g0 => ?_) (fun g0 => ?_)
  · have g0 := of_decide_eq_true g0
    refine JC.seq ?_
    refine JC.xp [(4, .int .i64 (-1)), (5, .int .u64 (rk a)), (6, .int .u64 (rk b))] (by kernel_rfl) ?_
    refine JE.seq ?_
    refine JC.ret ?_
    refine JE.ret_seq ?_
    refine JE.retx (vs := [.int .i64 (-1)]) (hints := []) (ns := []) (Mem.init _) @Tryz.results25 (by kernel_rfl) ?_
    exact ⟨congrArg (fun z => Ending.returned (.int .i64 z)) (by unfold cmpR; (repeat split) <;> first | rfl | omega), hM.chNo⟩
  · have g0 := of_decide_eq_false g0
    refine JC.skip ?_
    refine JE.seq ?_
    refine JC.seq ?_
    refine JC.seq ?_
    refine JC.xp [(4, .int .i64 0), (16, .bool (decide (rk b < rk a)))] (by kernel_rfl) ?_
    refine JE.seq ?_
    refine JC.cond (evE rfl) (fun g1 => ?_) (fun g1 => ?_)
    · have g1 := of_decide_eq_true g1
      refine JC.seq ?_
      refine JC.xp [(4, .int .i64 1)] (by kernel_rfl) ?_
      refine JE.seq ?_
      refine JC.ret ?_
      refine JE.ret_seq ?_
      refine JE.retx (vs := [.int .i64 1]) (hints := []) (ns := []) (Mem.init _) @Tryz.results25 (by kernel_rfl) ?_
      exact ⟨congrArg (fun z => Ending.returned (.int .i64 z)) (by unfold cmpR; (repeat split) <;> first | rfl | omega), hM.chNo⟩
    · have g1 := of_decide_eq_false g1
      refine JC.skip ?_
      refine JE.seq ?_
      refine JC.seq ?_
      refine JC.xp [(4, .int .i64 0)] (by kernel_rfl) ?_
      refine JE.seq ?_
      refine JC.ret ?_
      refine JE.retx (vs := [.int .i64 0]) (hints := []) (ns := []) (Mem.init _) @Tryz.results25 (by kernel_rfl) ?_
      exact ⟨congrArg (fun z => Ending.returned (.int .i64 z)) (by unfold cmpR; (repeat split) <;> first | rfl | omega), hM.chNo⟩

end Go.Proofs.YtodeldmdbeocfaaGreatDoor.Nm
