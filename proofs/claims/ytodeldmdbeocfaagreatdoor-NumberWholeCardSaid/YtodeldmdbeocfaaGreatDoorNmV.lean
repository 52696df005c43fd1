/- NumberWhole answers true. For every input. -/
import Derived.Test.YtodeldmdbeocfaaGreatDoorNmX
import Derived.Test.YtodeldmdbeocfaaGreatDoorNmN
namespace Go.Proofs.YtodeldmdbeocfaaGreatDoor.Nm
open Go Go.Proofs.YtodeldmdbeocfaaGreatDoor.Eng
set_option linter.unusedVariables false
set_option linter.unusedSimpArgs false
set_option maxRecDepth 8000
theorem trunc_extern {P : Program} {f : FuncId} {x : Nat} {w : World} (hx : IsNum x) (hc : (callFunc f #[.float .f64 x]).run P w = (do let v ← Extern.MathFloor.toIntegral "math.archTrunc" .zero #[.float .f64 x]; pure (Next.value v)).run P w) : (callFunc f #[.float .f64 x]).run P w = .ok (.value (.float .f64 (trw x))) w := by
  obtain ⟨s, k, l, hr⟩ := hx
  rw [hc]
  have hd : FloatKind.f64.decode x = .number s k l := hr
  unfold trw
  rw [hr]
  show (Extern.MathFloor.toIntegral.match_1 (fun _ => Sem Value) (FloatKind.f64.decode x) (fun s t => _) (fun d => _) >>= fun v => pure (Next.value v)).run P w = _
  rw [hd]
  rfl
theorem Run.f2i {P : Program} {F : Fr} {src dst ty : TypeId} {o : Operand} {x : Nat} {n : Int} {w : World} (hs : (P.underlying src).isSome = true) (hd : P.underlying dst = some (.int .i64)) (hx : Ev F o (.float .f64 x)) (h : floatToIntVal .f64 x .i64 = some n) : Run P F (.convert src dst o) ty w (.ok (.value (.int .i64 n)) w) := fun a ha _ _ _ _ => by
  simp [execOp, hx.eq ha, run_convert_float_int w src dst .f64 .i64 x n hs hd h]
theorem Run.i2f {P : Program} {F : Fr} {src dst ty : TypeId} {o : Operand} {n : Int} {w : World} (hs : (P.underlying src).isSome = true) (hd : P.underlying dst = some (.float .f64)) (hx : Ev F o (.int .i64 n)) : Run P F (.convert src dst o) ty w (.ok (.value (.float .f64 (fi n))) w) := fun a ha _ _ _ _ => by
  have : floatOfInt .f64 n = fi n := rfl
  simp [execOp, hx.eq ha, run_convert_int_float w src dst .i64 .f64 n hs hd, this]

set_option maxHeartbeats 400000 in
theorem trunc_any (x : Nat) (hx : IsNum x) (w : World) :
    Calls Tryz.prog 48 #[.float .f64 x] w fun e w' => e = .returned (.float .f64 (trw x)) ∧ w' = w := by
  refine calls @Tryz.func48 rfl @Tryz.ntmps48 rfl ?_
  show JC _ _ _ _ _ [(0, .float .f64 x)] _
  refine JC.seq ?_
  refine JC.xp [(0, .float .f64 x), (2, .float .f64 0)] (by kernel_rfl) ?_
  refine JE.seq ?_
  refine JC.seq ?_
  refine JC.condT (evE rfl) rfl ?_
  refine JC.seq ?_
  refine JC.region ?_
  refine JL.xp 1 [(0, .float .f64 x), (2, .float .f64 0), (3, .float .f64 x)] (by kernel_rfl) ?_
  refine JL.val rfl (v := .float .f64 (trw x)) (Run.callXq (vs := [.float .f64 x]) (trunc_extern hx rfl) rfl) ?_
  refine JL.xp 1 [(0, .float .f64 x), (2, .float .f64 (trw x))] (by kernel_rfl) ?_
  refine JL.nil ?_
  refine JE.seq ?_
  refine JC.ret ?_
  refine JE.ret_seq ?_
  refine JE.retx (vs := [.float .f64 (trw x)]) (hints := []) (ns := []) (Mem.init _) @Tryz.results48 (by kernel_rfl) ?_
  exact ⟨rfl, rfl⟩

set_option maxHeartbeats 400000 in
theorem whole_any (x : Nat) (m : Int) (hx : IsNum x) (hm : noW x = false → floatToIntVal .f64 x .i64 = some m) (w : World) :
    Calls Tryz.prog 27 #[.float .f64 x] w fun e w' => e = .returned (.tuple #[.int .i64 (if noW x then 0 else m), .bool (!(noW x))]) ∧ w' = w := by
  refine calls @Tryz.func27 rfl @Tryz.ntmps27 rfl ?_
  show JC _ _ _ _ _ [(0, .float .f64 x)] _
  refine JC.seq ?_
  refine JC.xp [(0, .float .f64 x), (2, .int .i64 0), (3, .bool false)] (by kernel_rfl) ?_
  refine JE.seq ?_
  refine JC.seq ?_
  refine JC.seq ?_
  refine JC.region ?_
  refine JL.xp 2 [(0, .float .f64 x), (2, .int .i64 0), (3, .bool false), (4, .float .f64 x), (5, .float .f64 x)] (by kernel_rfl) ?_
  refine JL.call rfl (Run.callF (vs := [.float .f64 x]) @Tryz.call48 rfl) (trunc_any x hx _) ?_
  rintro e w ⟨rfl, rfl⟩
  refine JRet.ret ?_
  refine JL.val rfl (v := .bool (no1 x)) (Run.bin (evE rfl) (evE rfl) rfl (by rfl)) ?_
  refine JL.xp 1 [(0, .float .f64 x), (2, .int .i64 0), (3, .bool false), (8, .bool (no1 x))] (by kernel_rfl) ?_
  refine JL.bsplit (b := (no1 x)) (fun g1 => ?_) (fun g1 => ?_)
  · refine JL.keep (L := [(0, .float .f64 x), (2, .int .i64 0), (3, .bool false), (8, .bool true)]) (.cons (lk_look rfl) (.cons (lk_look rfl) (.cons (lk_look rfl) (.conse (lk_look rfl) (congrArg Value.bool g1) .nil)))) ?_
    refine JL.xp 7 [(0, .float .f64 x), (2, .int .i64 0), (3, .bool false), (15, .bool true)] (by kernel_rfl) ?_
    refine JL.nil ?_
    refine JE.seq ?_
    refine JC.condT (evE rfl) rfl ?_
    refine JC.seq ?_
    refine JC.xp [(0, .float .f64 x), (2, .int .i64 0), (3, .bool false)] (by kernel_rfl) ?_
    refine JE.seq ?_
    refine JC.ret ?_
    refine JE.ret_seq ?_
    refine JE.retx (vs := [.int .i64 0, .bool false]) (hints := []) (ns := []) (Mem.init _) @Tryz.results27 (by kernel_rfl) ?_
    have hn : noW x = true := by unfold noW; simp [g1]
    exact ⟨by rw [hn]; rfl, rfl⟩
  · refine JL.keep (L := [(0, .float .f64 x), (2, .int .i64 0), (3, .bool false), (8, .bool false)]) (.cons (lk_look rfl) (.cons (lk_look rfl) (.cons (lk_look rfl) (.conse (lk_look rfl) (congrArg Value.bool g1) .nil)))) ?_
    refine JL.xp 1 [(0, .float .f64 x), (2, .int .i64 0), (3, .bool false), (8, .bool false), (9, .float .f64 x)] (by kernel_rfl) ?_
    refine JL.gyes (oj := _) (by rfl) (by rfl) (lk_look rfl) ?_
    refine JL.val rfl (v := .bool (no2 x)) (Run.bin (evE rfl) (evE rfl) rfl (by rfl)) ?_
    refine JL.xp 2 [(0, .float .f64 x), (2, .int .i64 0), (3, .bool false), (12, .bool (no2 x))] (by kernel_rfl) ?_
    refine JL.bsplit (b := (no2 x)) (fun g2 => ?_) (fun g2 => ?_)
    · refine JL.keep (L := [(0, .float .f64 x), (2, .int .i64 0), (3, .bool false), (12, .bool true)]) (.cons (lk_look rfl) (.cons (lk_look rfl) (.cons (lk_look rfl) (.conse (lk_look rfl) (congrArg Value.bool g2) .nil)))) ?_
      refine JL.xp 3 [(0, .float .f64 x), (2, .int .i64 0), (3, .bool false), (15, .bool true)] (by kernel_rfl) ?_
      refine JL.nil ?_
      refine JE.seq ?_
      refine JC.condT (evE rfl) rfl ?_
      refine JC.seq ?_
      refine JC.xp [(0, .float .f64 x), (2, .int .i64 0), (3, .bool false)] (by kernel_rfl) ?_
      refine JE.seq ?_
      refine JC.ret ?_
      refine JE.ret_seq ?_
      refine JE.retx (vs := [.int .i64 0, .bool false]) (hints := []) (ns := []) (Mem.init _) @Tryz.results27 (by kernel_rfl) ?_
      have hn : noW x = true := by unfold noW; simp [g1, g2]
      exact ⟨by rw [hn]; rfl, rfl⟩
    · refine JL.keep (L := [(0, .float .f64 x), (2, .int .i64 0), (3, .bool false), (12, .bool false)]) (.cons (lk_look rfl) (.cons (lk_look rfl) (.cons (lk_look rfl) (.conse (lk_look rfl) (congrArg Value.bool g2) .nil)))) ?_
      refine JL.xp 1 [(0, .float .f64 x), (2, .int .i64 0), (3, .bool false), (12, .bool false), (13, .float .f64 x)] (by kernel_rfl) ?_
      refine JL.gyes (oj := _) (by rfl) (by rfl) (lk_look rfl) ?_
      refine JL.val rfl (v := .bool (no3 x)) (Run.bin (evE rfl) (evE rfl) rfl (by rfl)) ?_
      refine JL.xp 1 [(0, .float .f64 x), (2, .int .i64 0), (3, .bool false), (15, .bool (no3 x))] (by kernel_rfl) ?_
      refine JL.nil ?_
      refine JE.seq ?_
      refine JC.cond (evE rfl) (fun g3 => ?_) (fun g3 => ?_)
      · refine JC.seq ?_
        refine JC.xp [(0, .float .f64 x), (2, .int .i64 0), (3, .bool false)] (by kernel_rfl) ?_
        refine JE.seq ?_
        refine JC.ret ?_
        refine JE.ret_seq ?_
        refine JE.retx (vs := [.int .i64 0, .bool false]) (hints := []) (ns := []) (Mem.init _) @Tryz.results27 (by kernel_rfl) ?_
        have hn : noW x = true := by unfold noW; simp [g1, g2, g3]
        exact ⟨by rw [hn]; rfl, rfl⟩
      · refine JC.skip ?_
        refine JE.seq ?_
        refine JC.seq ?_
        refine JC.region ?_
        refine JL.xp 1 [(2, .int .i64 0), (3, .bool false), (16, .float .f64 x)] (by kernel_rfl) ?_
        have hn : noW x = false := by unfold noW; simp [g1, g2, g3]
        refine JL.val rfl (v := .int .i64 m) (Run.f2i (by kernel_rfl) @Tryz.underlying2 (evE rfl) (hm hn)) ?_
        refine JL.xp 2 [(2, .int .i64 m), (3, .bool true)] (by kernel_rfl) ?_
        refine JL.nil ?_
        refine JE.seq ?_
        refine JC.ret ?_
        refine JE.retx (vs := [.int .i64 m, .bool true]) (hints := []) (ns := []) (Mem.init _) @Tryz.results27 (by kernel_rfl) ?_
        exact ⟨by rw [hn]; rfl, rfl⟩

set_option maxHeartbeats 2000000 in
theorem whole_law (n : Int) (h0 : -9223372036854775808 ≤ n) (h1 : n < 9223372036854775808) (w : World) {φ : Fz} (hag : Agree w φ) (fb fo fc : Nat) (ho : Olds φ (needs fb fo fc)) :
    Calls Tryz.prog 7 #[.int .i64 n] w fun e w' => e = .returned (.bool true) ∧ Ch No w w' := by
  obtain ⟨m, hx, hm, hmn, hlt, hsm⟩ := fi_facts h0 h1
  have hM : Mem w [] φ [] w := Mem.nil [] hag
  refine calls @Tryz.func7 rfl @Tryz.ntmps7 rfl ?_
  show JC _ _ _ _ _ [(0, .int .i64 n)] _
  refine JC.seq ?_
  refine JC.xp [(0, .int .i64 n), (2, .bool false)] (by kernel_rfl) ?_
  refine JE.seq ?_
  refine JC.seq ?_
  refine JC.region ?_
  refine JL.xp 1 [(0, .int .i64 n), (2, .bool false), (8, .int .i64 n)] (by kernel_rfl) ?_
  refine JL.val rfl (v := .float .f64 (fi n)) (Run.i2f (by kernel_rfl) @Tryz.underlying27 (evE rfl)) ?_
  refine JL.xp 1 [(0, .int .i64 n), (2, .bool false), (3, .float .f64 (fi n))] (by kernel_rfl) ?_
  refine JL.nil ?_
  refine JE.seq ?_
  refine JC.seq ?_
  refine JC.region ?_
  refine JL.xp 1 [(0, .int .i64 n), (2, .bool false), (3, .float .f64 (fi n)), (11, .float .f64 (fi n))] (by kernel_rfl) ?_
  refine JL.call rfl (Run.callF (vs := [.float .f64 (fi n)]) @Tryz.call27 rfl) (whole_any (fi n) m hx hm _) ?_
  rintro e w ⟨rfl, rfl⟩
  refine JRet.ret ?_
  refine JL.xp 5 [(0, .int .i64 n), (2, .bool false), (3, .float .f64 (fi n)), (4, .int .i64 (if noW (fi n) then 0 else m)), (5, .bool (!(noW (fi n))))] (by kernel_rfl) ?_
  refine JL.nil ?_
  refine JE.seq ?_
  refine JC.seq ?_
  refine JC.seq ?_
  refine JC.region ?_
  refine JL.xp 1 [(0, .int .i64 n), (2, .bool false), (3, .float .f64 (fi n)), (4, .int .i64 (if noW (fi n) then 0 else m)), (5, .bool (!(noW (fi n)))), (15, .float .f64 (fi n))] (by kernel_rfl) ?_
  refine JL.val rfl (v := .bool (!(noW (fi n)))) (Run.bin (evE rfl) (evE rfl) rfl (by rw [← hlt]; rfl)) ?_
  refine JL.xp 1 [(0, .int .i64 n), (2, .bool false), (3, .float .f64 (fi n)), (4, .int .i64 (if noW (fi n) then 0 else m)), (5, .bool (!(noW (fi n)))), (17, .bool (!(noW (fi n))))] (by kernel_rfl) ?_
  refine JL.bsplit (b := !(noW (fi n))) (fun g1 => ?_) (fun g1 => ?_)
  · refine JL.keep (L := [(0, .int .i64 n), (2, .bool false), (3, .float .f64 (fi n)), (4, .int .i64 (if noW (fi n) then 0 else m)), (5, .bool (!(noW (fi n)))), (17, .bool true)]) (.cons (lk_look rfl) (.cons (lk_look rfl) (.cons (lk_look rfl) (.cons (lk_look rfl) (.cons (lk_look rfl) (.conse (lk_look rfl) (congrArg Value.bool g1) .nil)))))) ?_
    try have g1 := of_decide_eq_true g1
    try have g1 := of_decide_eq_false g1
    refine JL.xp 3 [(0, .int .i64 n), (2, .bool false), (3, .float .f64 (fi n)), (4, .int .i64 (if noW (fi n) then 0 else m)), (5, .bool (!(noW (fi n)))), (17, .bool true), (20, .bool (!(!(noW (fi n)))))] (by kernel_rfl) ?_
    refine JL.bsplit (b := !(!(noW (fi n)))) (fun g2 => ?_) (fun g2 => ?_)
    · refine JL.keep (L := [(0, .int .i64 n), (2, .bool false), (3, .float .f64 (fi n)), (4, .int .i64 (if noW (fi n) then 0 else m)), (5, .bool (!(noW (fi n)))), (17, .bool true), (20, .bool true)]) (.cons (lk_look rfl) (.cons (lk_look rfl) (.cons (lk_look rfl) (.cons (lk_look rfl) (.cons (lk_look rfl) (.cons (lk_look rfl) (.conse (lk_look rfl) (congrArg Value.bool g2) .nil))))))) ?_
      try have g2 := of_decide_eq_true g2
      try have g2 := of_decide_eq_false g2
      refine JL.xp 6 [(0, .int .i64 n), (2, .bool false), (3, .float .f64 (fi n)), (4, .int .i64 (if noW (fi n) then 0 else m)), (5, .bool (!(noW (fi n)))), (26, .bool true)] (by kernel_rfl) ?_
      refine JL.nil ?_
      refine JE.seq ?_
      refine JC.condT (evE rfl) rfl ?_
      refine JC.seq ?_
      refine JC.xp [(0, .int .i64 n), (2, .bool false), (3, .float .f64 (fi n)), (4, .int .i64 (if noW (fi n) then 0 else m)), (5, .bool (!(noW (fi n))))] (by kernel_rfl) ?_
      refine JE.seq ?_
      refine JC.ret ?_
      refine JE.ret_seq ?_
      refine JE.retx (vs := [.bool false]) (hints := []) (ns := []) (Mem.init _) @Tryz.results7 (by kernel_rfl) ?_
      exfalso
      first | (simp_all; done) | (simp_all; omega)
    · refine JL.keep (L := [(0, .int .i64 n), (2, .bool false), (3, .float .f64 (fi n)), (4, .int .i64 (if noW (fi n) then 0 else m)), (5, .bool (!(noW (fi n)))), (17, .bool true), (20, .bool false)]) (.cons (lk_look rfl) (.cons (lk_look rfl) (.cons (lk_look rfl) (.cons (lk_look rfl) (.cons (lk_look rfl) (.cons (lk_look rfl) (.conse (lk_look rfl) (congrArg Value.bool g2) .nil))))))) ?_
      try have g2 := of_decide_eq_true g2
      try have g2 := of_decide_eq_false g2
      refine JL.xp 1 [(0, .int .i64 n), (2, .bool false), (3, .float .f64 (fi n)), (4, .int .i64 (if noW (fi n) then 0 else m)), (5, .bool (!(noW (fi n)))), (17, .bool true), (20, .bool false), (21, .int .i64 (if noW (fi n) then 0 else m))] (by kernel_rfl) ?_
      refine JL.gyes (oj := _) (by rfl) (by rfl) (lk_look rfl) ?_
      refine JL.val rfl (v := .float .f64 (fi (if noW (fi n) then 0 else m))) (Run.i2f (by kernel_rfl) @Tryz.underlying27 (evE rfl)) ?_
      refine JL.xp 1 [(0, .int .i64 n), (2, .bool false), (3, .float .f64 (fi n)), (4, .int .i64 (if noW (fi n) then 0 else m)), (5, .bool (!(noW (fi n)))), (17, .bool true), (20, .bool false), (22, .float .f64 (fi (if noW (fi n) then 0 else m))), (23, .float .f64 (fi n))] (by kernel_rfl) ?_
      refine JL.gyes (oj := _) (by rfl) (by rfl) (lk_look rfl) ?_
      refine JL.val rfl (v := .bool (Ieee.double.order (fi (if noW (fi n) then 0 else m)) (fi n) != some .eq)) (Run.bin (evE rfl) (evE rfl) rfl (by rfl)) ?_
      refine JL.xp 2 [(0, .int .i64 n), (2, .bool false), (3, .float .f64 (fi n)), (4, .int .i64 (if noW (fi n) then 0 else m)), (5, .bool (!(noW (fi n)))), (26, .bool (Ieee.double.order (fi (if noW (fi n) then 0 else m)) (fi n) != some .eq))] (by kernel_rfl) ?_
      refine JL.nil ?_
      refine JE.seq ?_
      refine JC.cond (evE rfl) (fun g3 => ?_) (fun g3 => ?_)
      · refine JC.seq ?_
        refine JC.xp [(0, .int .i64 n), (2, .bool false), (3, .float .f64 (fi n)), (4, .int .i64 (if noW (fi n) then 0 else m)), (5, .bool (!(noW (fi n))))] (by kernel_rfl) ?_
        refine JE.seq ?_
        refine JC.ret ?_
        refine JE.ret_seq ?_
        refine JE.retx (vs := [.bool false]) (hints := []) (ns := []) (Mem.init _) @Tryz.results7 (by kernel_rfl) ?_
        exfalso
        first | (simp_all; done) | (simp_all; omega)
      · refine JC.skip ?_
        refine JE.seq ?_
        refine JC.seq ?_
        refine JC.seq ?_
        refine JC.region ?_
        refine JL.xp 3 [(0, .int .i64 n), (2, .bool false), (3, .float .f64 (fi n)), (4, .int .i64 (if noW (fi n) then 0 else m)), (5, .bool (!(noW (fi n)))), (29, .bool (decide (-4503599627370496 < n)))] (by kernel_rfl) ?_
        refine JL.bsplit (b := decide (-4503599627370496 < n)) (fun g4 => ?_) (fun g4 => ?_)
        · refine JL.keep (L := [(0, .int .i64 n), (2, .bool false), (3, .float .f64 (fi n)), (4, .int .i64 (if noW (fi n) then 0 else m)), (5, .bool (!(noW (fi n)))), (29, .bool true)]) (.cons (lk_look rfl) (.cons (lk_look rfl) (.cons (lk_look rfl) (.cons (lk_look rfl) (.cons (lk_look rfl) (.conse (lk_look rfl) (congrArg Value.bool g4) .nil)))))) ?_
          try have g4 := of_decide_eq_true g4
          try have g4 := of_decide_eq_false g4
          refine JL.xp 3 [(0, .int .i64 n), (2, .bool false), (3, .float .f64 (fi n)), (4, .int .i64 (if noW (fi n) then 0 else m)), (5, .bool (!(noW (fi n)))), (32, .bool (decide (n < 4503599627370496)))] (by kernel_rfl) ?_
          refine JL.nil ?_
          refine JE.seq ?_
          refine JC.cond (evE rfl) (fun g5 => ?_) (fun g5 => ?_)
          · have g5 := of_decide_eq_true g5
            refine JC.seq ?_
            refine JC.seq ?_
            refine JC.region ?_
            refine JL.xp 3 [(0, .int .i64 n), (2, .bool false), (3, .float .f64 (fi n)), (4, .int .i64 (if noW (fi n) then 0 else m)), (35, .bool (!(!(noW (fi n)))))] (by kernel_rfl) ?_
            refine JL.bsplit (b := !(!(noW (fi n)))) (fun g6 => ?_) (fun g6 => ?_)
            · refine JL.keep (L := [(0, .int .i64 n), (2, .bool false), (3, .float .f64 (fi n)), (4, .int .i64 (if noW (fi n) then 0 else m)), (35, .bool true)]) (.cons (lk_look rfl) (.cons (lk_look rfl) (.cons (lk_look rfl) (.cons (lk_look rfl) (.conse (lk_look rfl) (congrArg Value.bool g6) .nil))))) ?_
              try have g6 := of_decide_eq_true g6
              try have g6 := of_decide_eq_false g6
              refine JL.xp 4 [(2, .bool false), (3, .float .f64 (fi n)), (39, .bool true)] (by kernel_rfl) ?_
              refine JL.nil ?_
              refine JE.seq ?_
              refine JC.condT (evE rfl) rfl ?_
              refine JC.seq ?_
              refine JC.xp [(2, .bool false), (3, .float .f64 (fi n))] (by kernel_rfl) ?_
              refine JE.seq ?_
              refine JC.ret ?_
              refine JE.ret_seq ?_
              refine JE.ret_seq ?_
              refine JE.retx (vs := [.bool false]) (hints := []) (ns := []) (Mem.init _) @Tryz.results7 (by kernel_rfl) ?_
              exfalso
              first | (simp_all; done) | (simp_all; omega)
            · refine JL.keep (L := [(0, .int .i64 n), (2, .bool false), (3, .float .f64 (fi n)), (4, .int .i64 (if noW (fi n) then 0 else m)), (35, .bool false)]) (.cons (lk_look rfl) (.cons (lk_look rfl) (.cons (lk_look rfl) (.cons (lk_look rfl) (.conse (lk_look rfl) (congrArg Value.bool g6) .nil))))) ?_
              try have g6 := of_decide_eq_true g6
              try have g6 := of_decide_eq_false g6
              refine JL.xp 4 [(2, .bool false), (3, .float .f64 (fi n)), (39, .bool (((if noW (fi n) then 0 else m) : Int) != n))] (by kernel_rfl) ?_
              refine JL.nil ?_
              refine JE.seq ?_
              refine JC.cond (evE rfl) (fun g7 => ?_) (fun g7 => ?_)
              · refine JC.seq ?_
                refine JC.xp [(2, .bool false), (3, .float .f64 (fi n))] (by kernel_rfl) ?_
                refine JE.seq ?_
                refine JC.ret ?_
                refine JE.ret_seq ?_
                refine JE.ret_seq ?_
                refine JE.retx (vs := [.bool false]) (hints := []) (ns := []) (Mem.init _) @Tryz.results7 (by kernel_rfl) ?_
                exfalso
                first | (simp_all; done) | (simp_all; omega)
              · refine JC.skip ?_
                refine JE.seq ?_
                refine JC.seq ?_
                refine JC.region ?_
                refine JL.xp 1 [(2, .bool false), (41, .float .f64 (fi n))] (by kernel_rfl) ?_
                obtain ⟨hmE, hnw, y, hya, hy, hyw⟩ := hsm (by assumption) (by assumption)
                refine JL.val rfl (v := .float .f64 y) (Run.bin (evE rfl) (evE rfl) rfl (run_float_arith _ .add _ .f64 _ _ _ hya)) ?_
                refine JL.call rfl (Run.callF (vs := [.float .f64 y]) @Tryz.call27 rfl) (whole_any y 0 hy (by rw [hyw]; intro h; cases h) _) ?_
                rintro e w ⟨rfl, rfl⟩
                refine JRet.ret ?_
                refine JL.xp 5 [(2, .bool false), (7, .bool (!(noW y)))] (by kernel_rfl) ?_
                refine JL.nil ?_
                refine JE.seq ?_
                refine JC.seq ?_
                refine JC.xp [(2, .bool false), (46, .bool (!(noW y)))] (by kernel_rfl) ?_
                refine JE.seq ?_
                refine JC.cond (evE rfl) (fun g8 => ?_) (fun g8 => ?_)
                · refine JC.seq ?_
                  refine JC.xp [(2, .bool false)] (by kernel_rfl) ?_
                  refine JE.seq ?_
                  refine JC.ret ?_
                  refine JE.ret_seq ?_
                  refine JE.retx (vs := [.bool false]) (hints := []) (ns := []) (Mem.init _) @Tryz.results7 (by kernel_rfl) ?_
                  exfalso
                  first | (simp_all; done) | (simp_all; omega)
                · refine JC.skip ?_
                  refine JE.seq ?_
                  refine JC.seq ?_
                  refine JC.region ?_
                  refine JL.call rfl (Run.callF (vs := []) @Tryz.call16 rfl) (wakes_run _ hM.agree fb fo fc ho) ?_
                  rintro e w1 ⟨rfl, hc⟩
                  refine JRet.ret ?_
                  replace hM := hM.no hc
                  refine JL.xp 1 [(2, .bool true)] (by kernel_rfl) ?_
                  refine JL.nil ?_
                  refine JE.seq ?_
                  refine JC.ret ?_
                  refine JE.retx (vs := [.bool true]) (hints := []) (ns := []) (Mem.init _) @Tryz.results7 (by kernel_rfl) ?_
                  exact ⟨rfl, hM.chNo⟩
          · have g5 := of_decide_eq_false g5
            refine JC.skip ?_
            refine JE.seq ?_
            refine JC.seq ?_
            refine JC.region ?_
            refine JL.call rfl (Run.callF (vs := []) @Tryz.call16 rfl) (wakes_run _ hM.agree fb fo fc ho) ?_
            rintro e w2 ⟨rfl, hc⟩
            refine JRet.ret ?_
            replace hM := hM.no hc
            refine JL.xp 1 [(2, .bool true)] (by kernel_rfl) ?_
            refine JL.nil ?_
            refine JE.seq ?_
            refine JC.ret ?_
            refine JE.retx (vs := [.bool true]) (hints := []) (ns := []) (Mem.init _) @Tryz.results7 (by kernel_rfl) ?_
            exact ⟨rfl, hM.chNo⟩
        · refine JL.keep (L := [(0, .int .i64 n), (2, .bool false), (3, .float .f64 (fi n)), (4, .int .i64 (if noW (fi n) then 0 else m)), (5, .bool (!(noW (fi n)))), (29, .bool false)]) (.cons (lk_look rfl) (.cons (lk_look rfl) (.cons (lk_look rfl) (.cons (lk_look rfl) (.cons (lk_look rfl) (.conse (lk_look rfl) (congrArg Value.bool g4) .nil)))))) ?_
          try have g4 := of_decide_eq_true g4
          try have g4 := of_decide_eq_false g4
          refine JL.xp 3 [(0, .int .i64 n), (2, .bool false), (3, .float .f64 (fi n)), (4, .int .i64 (if noW (fi n) then 0 else m)), (5, .bool (!(noW (fi n)))), (32, .bool false)] (by kernel_rfl) ?_
          refine JL.nil ?_
          refine JE.seq ?_
          refine JC.condF (evE rfl) rfl ?_
          refine JC.skip ?_
          refine JE.seq ?_
          refine JC.seq ?_
          refine JC.region ?_
          refine JL.call rfl (Run.callF (vs := []) @Tryz.call16 rfl) (wakes_run _ hM.agree fb fo fc ho) ?_
          rintro e w3 ⟨rfl, hc⟩
          refine JRet.ret ?_
          replace hM := hM.no hc
          refine JL.xp 1 [(2, .bool true)] (by kernel_rfl) ?_
          refine JL.nil ?_
          refine JE.seq ?_
          refine JC.ret ?_
          refine JE.retx (vs := [.bool true]) (hints := []) (ns := []) (Mem.init _) @Tryz.results7 (by kernel_rfl) ?_
          exact ⟨rfl, hM.chNo⟩
  · refine JL.keep (L := [(0, .int .i64 n), (2, .bool false), (3, .float .f64 (fi n)), (4, .int .i64 (if noW (fi n) then 0 else m)), (5, .bool (!(noW (fi n)))), (17, .bool false)]) (.cons (lk_look rfl) (.cons (lk_look rfl) (.cons (lk_look rfl) (.cons (lk_look rfl) (.cons (lk_look rfl) (.conse (lk_look rfl) (congrArg Value.bool g1) .nil)))))) ?_
    try have g1 := of_decide_eq_true g1
    try have g1 := of_decide_eq_false g1
    refine JL.xp 9 [(0, .int .i64 n), (2, .bool false), (3, .float .f64 (fi n)), (4, .int .i64 (if noW (fi n) then 0 else m)), (5, .bool (!(noW (fi n)))), (26, .bool false)] (by kernel_rfl) ?_
    refine JL.nil ?_
    refine JE.seq ?_
    refine JC.condF (evE rfl) rfl ?_
    refine JC.skip ?_
    refine JE.seq ?_
    refine JC.seq ?_
    refine JC.seq ?_
    refine JC.region ?_
    refine JL.xp 3 [(0, .int .i64 n), (2, .bool false), (3, .float .f64 (fi n)), (4, .int .i64 (if noW (fi n) then 0 else m)), (5, .bool (!(noW (fi n)))), (29, .bool (decide (-4503599627370496 < n)))] (by kernel_rfl) ?_
    refine JL.bsplit (b := decide (-4503599627370496 < n)) (fun g9 => ?_) (fun g9 => ?_)
    · refine JL.keep (L := [(0, .int .i64 n), (2, .bool false), (3, .float .f64 (fi n)), (4, .int .i64 (if noW (fi n) then 0 else m)), (5, .bool (!(noW (fi n)))), (29, .bool true)]) (.cons (lk_look rfl) (.cons (lk_look rfl) (.cons (lk_look rfl) (.cons (lk_look rfl) (.cons (lk_look rfl) (.conse (lk_look rfl) (congrArg Value.bool g9) .nil)))))) ?_
      try have g9 := of_decide_eq_true g9
      try have g9 := of_decide_eq_false g9
      refine JL.xp 3 [(0, .int .i64 n), (2, .bool false), (3, .float .f64 (fi n)), (4, .int .i64 (if noW (fi n) then 0 else m)), (5, .bool (!(noW (fi n)))), (32, .bool (decide (n < 4503599627370496)))] (by kernel_rfl) ?_
      refine JL.nil ?_
      refine JE.seq ?_
      refine JC.cond (evE rfl) (fun g10 => ?_) (fun g10 => ?_)
      · have g10 := of_decide_eq_true g10
        refine JC.seq ?_
        refine JC.seq ?_
        refine JC.region ?_
        refine JL.xp 3 [(0, .int .i64 n), (2, .bool false), (3, .float .f64 (fi n)), (4, .int .i64 (if noW (fi n) then 0 else m)), (35, .bool (!(!(noW (fi n)))))] (by kernel_rfl) ?_
        refine JL.bsplit (b := !(!(noW (fi n)))) (fun g11 => ?_) (fun g11 => ?_)
        · refine JL.keep (L := [(0, .int .i64 n), (2, .bool false), (3, .float .f64 (fi n)), (4, .int .i64 (if noW (fi n) then 0 else m)), (35, .bool true)]) (.cons (lk_look rfl) (.cons (lk_look rfl) (.cons (lk_look rfl) (.cons (lk_look rfl) (.conse (lk_look rfl) (congrArg Value.bool g11) .nil))))) ?_
          try have g11 := of_decide_eq_true g11
          try have g11 := of_decide_eq_false g11
          refine JL.xp 4 [(2, .bool false), (3, .float .f64 (fi n)), (39, .bool true)] (by kernel_rfl) ?_
          refine JL.nil ?_
          refine JE.seq ?_
          refine JC.condT (evE rfl) rfl ?_
          refine JC.seq ?_
          refine JC.xp [(2, .bool false), (3, .float .f64 (fi n))] (by kernel_rfl) ?_
          refine JE.seq ?_
          refine JC.ret ?_
          refine JE.ret_seq ?_
          refine JE.ret_seq ?_
          refine JE.retx (vs := [.bool false]) (hints := []) (ns := []) (Mem.init _) @Tryz.results7 (by kernel_rfl) ?_
          exfalso
          first | (simp_all; done) | (simp_all; omega)
        · refine JL.keep (L := [(0, .int .i64 n), (2, .bool false), (3, .float .f64 (fi n)), (4, .int .i64 (if noW (fi n) then 0 else m)), (35, .bool false)]) (.cons (lk_look rfl) (.cons (lk_look rfl) (.cons (lk_look rfl) (.cons (lk_look rfl) (.conse (lk_look rfl) (congrArg Value.bool g11) .nil))))) ?_
          try have g11 := of_decide_eq_true g11
          try have g11 := of_decide_eq_false g11
          refine JL.xp 4 [(2, .bool false), (3, .float .f64 (fi n)), (39, .bool (((if noW (fi n) then 0 else m) : Int) != n))] (by kernel_rfl) ?_
          refine JL.nil ?_
          refine JE.seq ?_
          refine JC.cond (evE rfl) (fun g12 => ?_) (fun g12 => ?_)
          · refine JC.seq ?_
            refine JC.xp [(2, .bool false), (3, .float .f64 (fi n))] (by kernel_rfl) ?_
            refine JE.seq ?_
            refine JC.ret ?_
            refine JE.ret_seq ?_
            refine JE.ret_seq ?_
            refine JE.retx (vs := [.bool false]) (hints := []) (ns := []) (Mem.init _) @Tryz.results7 (by kernel_rfl) ?_
            exfalso
            first | (simp_all; done) | (simp_all; omega)
          · refine JC.skip ?_
            refine JE.seq ?_
            refine JC.seq ?_
            refine JC.region ?_
            refine JL.xp 1 [(2, .bool false), (41, .float .f64 (fi n))] (by kernel_rfl) ?_
            obtain ⟨hmE, hnw, y, hya, hy, hyw⟩ := hsm (by assumption) (by assumption)
            refine JL.val rfl (v := .float .f64 y) (Run.bin (evE rfl) (evE rfl) rfl (run_float_arith _ .add _ .f64 _ _ _ hya)) ?_
            refine JL.call rfl (Run.callF (vs := [.float .f64 y]) @Tryz.call27 rfl) (whole_any y 0 hy (by rw [hyw]; intro h; cases h) _) ?_
            rintro e w ⟨rfl, rfl⟩
            refine JRet.ret ?_
            refine JL.xp 5 [(2, .bool false), (7, .bool (!(noW y)))] (by kernel_rfl) ?_
            refine JL.nil ?_
            refine JE.seq ?_
            refine JC.seq ?_
            refine JC.xp [(2, .bool false), (46, .bool (!(noW y)))] (by kernel_rfl) ?_
            refine JE.seq ?_
            refine JC.cond (evE rfl) (fun g13 => ?_) (fun g13 => ?_)
            · refine JC.seq ?_
              refine JC.xp [(2, .bool false)] (by kernel_rfl) ?_
              refine JE.seq ?_
              refine JC.ret ?_
              refine JE.ret_seq ?_
              refine JE.retx (vs := [.bool false]) (hints := []) (ns := []) (Mem.init _) @Tryz.results7 (by kernel_rfl) ?_
              exfalso
              first | (simp_all; done) | (simp_all; omega)
            · refine JC.skip ?_
              refine JE.seq ?_
              refine JC.seq ?_
              refine JC.region ?_
              refine JL.call rfl (Run.callF (vs := []) @Tryz.call16 rfl) (wakes_run _ hM.agree fb fo fc ho) ?_
              rintro e w4 ⟨rfl, hc⟩
              refine JRet.ret ?_
              replace hM := hM.no hc
              refine JL.xp 1 [(2, .bool true)] (by kernel_rfl) ?_
              refine JL.nil ?_
              refine JE.seq ?_
              refine JC.ret ?_
              refine JE.retx (vs := [.bool true]) (hints := []) (ns := []) (Mem.init _) @Tryz.results7 (by kernel_rfl) ?_
              exact ⟨rfl, hM.chNo⟩
      · have g10 := of_decide_eq_false g10
        refine JC.skip ?_
        refine JE.seq ?_
        refine JC.seq ?_
        refine JC.region ?_
        refine JL.call rfl (Run.callF (vs := []) @Tryz.call16 rfl) (wakes_run _ hM.agree fb fo fc ho) ?_
        rintro e w5 ⟨rfl, hc⟩
        refine JRet.ret ?_
        replace hM := hM.no hc
        refine JL.xp 1 [(2, .bool true)] (by kernel_rfl) ?_
        refine JL.nil ?_
        refine JE.seq ?_
        refine JC.ret ?_
        refine JE.retx (vs := [.bool true]) (hints := []) (ns := []) (Mem.init _) @Tryz.results7 (by kernel_rfl) ?_
        exact ⟨rfl, hM.chNo⟩
    · refine JL.keep (L := [(0, .int .i64 n), (2, .bool false), (3, .float .f64 (fi n)), (4, .int .i64 (if noW (fi n) then 0 else m)), (5, .bool (!(noW (fi n)))), (29, .bool false)]) (.cons (lk_look rfl) (.cons (lk_look rfl) (.cons (lk_look rfl) (.cons (lk_look rfl) (.cons (lk_look rfl) (.conse (lk_look rfl) (congrArg Value.bool g9) .nil)))))) ?_
      try have g9 := of_decide_eq_true g9
      try have g9 := of_decide_eq_false g9
      refine JL.xp 3 [(0, .int .i64 n), (2, .bool false), (3, .float .f64 (fi n)), (4, .int .i64 (if noW (fi n) then 0 else m)), (5, .bool (!(noW (fi n)))), (32, .bool false)] (by kernel_rfl) ?_
      refine JL.nil ?_
      refine JE.seq ?_
      refine JC.condF (evE rfl) rfl ?_
      refine JC.skip ?_
      refine JE.seq ?_
      refine JC.seq ?_
      refine JC.region ?_
      refine JL.call rfl (Run.callF (vs := []) @Tryz.call16 rfl) (wakes_run _ hM.agree fb fo fc ho) ?_
      rintro e w6 ⟨rfl, hc⟩
      refine JRet.ret ?_
      replace hM := hM.no hc
      refine JL.xp 1 [(2, .bool true)] (by kernel_rfl) ?_
      refine JL.nil ?_
      refine JE.seq ?_
      refine JC.ret ?_
      refine JE.retx (vs := [.bool true]) (hints := []) (ns := []) (Mem.init _) @Tryz.results7 (by kernel_rfl) ?_
      exact ⟨rfl, hM.chNo⟩

end Go.Proofs.YtodeldmdbeocfaaGreatDoor.Nm
