/- NumberOrder answers true. For every input. -/
import Derived.Test.YtodeldmdbeocfaaGreatDoorNmW
namespace Go.Proofs.YtodeldmdbeocfaaGreatDoor.Nm
open Go Go.Proofs.YtodeldmdbeocfaaGreatDoor.Eng
set_option linter.unusedVariables false
set_option linter.unusedSimpArgs false
set_option maxRecDepth 8000

set_option maxHeartbeats 400000 in
theorem iatoi_run (w : World) :
    Calls Tryz.prog 86 #[.string ⟨#[45, 48, 49]⟩] w fun e w' => e = .returned (.tuple #[.int .i64 (-1), .nilIface]) ∧ Ch No w w' := by
  have hK : Ch No w w := Ch.refl w
  have hM : Mem w [] (cellsOf w) [] w := Mem.init w
  refine calls @Tryz.func86 rfl @Tryz.ntmps86 rfl ?_
  show JC _ _ _ _ _ [(0, .string ⟨#[45, 48, 49]⟩)] _
  refine JC.seq ?_
  refine JC.xp [(0, .string ⟨#[45, 48, 49]⟩), (2, .int .i64 0), (3, .nilIface)] (by kernel_rfl) ?_
  refine JE.seq ?_
  refine JC.seq ?_
  refine JC.xp [(0, .string ⟨#[45, 48, 49]⟩), (2, .int .i64 0), (3, .nilIface), (4, .int .i64 3)] (by kernel_rfl) ?_
  refine JE.seq ?_
  refine JC.seq ?_
  refine JC.seq ?_
  refine JC.xp [(0, .string ⟨#[45, 48, 49]⟩), (2, .int .i64 0), (3, .nilIface), (30, .bool true)] (by kernel_rfl) ?_
  refine JE.seq ?_
  refine JC.condT (evE rfl) rfl ?_
  refine JC.seq ?_
  refine JC.xp [(0, .string ⟨#[45, 48, 49]⟩), (2, .int .i64 0), (3, .nilIface), (5, .string ⟨#[45, 48, 49]⟩)] (by kernel_rfl) ?_
  refine JE.seq ?_
  refine JC.seq ?_
  refine JC.seq ?_
  refine JC.xp [(0, .string ⟨#[45, 48, 49]⟩), (2, .int .i64 0), (3, .nilIface), (5, .string ⟨#[45, 48, 49]⟩), (39, .bool true)] (by kernel_rfl) ?_
  refine JE.seq ?_
  refine JC.condT (evE rfl) rfl ?_
  refine JC.seq ?_
  refine JC.xp [(0, .string ⟨#[48, 49]⟩), (2, .int .i64 0), (3, .nilIface), (5, .string ⟨#[45, 48, 49]⟩)] (by kernel_rfl) ?_
  refine JE.seq ?_
  refine JC.seq ?_
  refine JC.xp [(0, .string ⟨#[48, 49]⟩), (2, .int .i64 0), (3, .nilIface), (5, .string ⟨#[45, 48, 49]⟩), (44, .bool false)] (by kernel_rfl) ?_
  refine JE.seq ?_
  refine JC.condF (evE rfl) rfl ?_
  refine JC.skip ?_
  refine JE.seq ?_
  refine JC.seq ?_
  refine JC.xp [(0, .string ⟨#[48, 49]⟩), (2, .int .i64 0), (3, .nilIface), (5, .string ⟨#[45, 48, 49]⟩), (6, .int .i64 0)] (by kernel_rfl) ?_
  refine JE.seq ?_
  refine JC.seq ?_
  refine JC.seq ?_
  refine JC.region ?_
  refine JL.xp 1 [(0, .string ⟨#[48, 49]⟩), (2, .int .i64 0), (3, .nilIface), (5, .string ⟨#[45, 48, 49]⟩), (6, .int .i64 0), (46, .string ⟨#[48, 49]⟩)] (by kernel_rfl) ?_
  refine JL.strBytes rfl @Tryz.underlying9 @Tryz.underlying68 @Tryz.underlying5 (evE rfl) (by decide) ?_
  intro b1 cap2 w3 hg_b1 hc4 hcap_b1 hcm_b1 hcell_b1 hlt_b1
  replace hK := hK.no hc4; have hM := Mem.init w3
  show JL _ _ _ _ _ _ (((47, .slice (some ⟨b1, 0, none⟩) 2 cap2)) :: _) _
  refine JL.xp 2 [(0, .string ⟨#[48, 49]⟩), (2, .int .i64 0), (3, .nilIface), (5, .string ⟨#[45, 48, 49]⟩), (6, .int .i64 0), (47, .slice (some ⟨b1, 0, none⟩) 2 cap2), (48, .int .i64 2), (49, .int .i64 0)] (by kernel_rfl) ?_
  refine JL.nil ?_
  refine JE.seq ?_
  refine JC.block ?_
  refine JC.loopK 2 ?_
  refine JC.seq ?_
  refine JC.xp [(0, .string ⟨#[48, 49]⟩), (2, .int .i64 0), (3, .nilIface), (5, .string ⟨#[45, 48, 49]⟩), (6, .int .i64 0), (47, .slice (some ⟨b1, 0, none⟩) 2 cap2), (48, .int .i64 2), (49, .int .i64 0), (50, .bool true)] (by kernel_rfl) ?_
  refine JE.seq ?_
  refine JC.seq ?_
  refine JC.condT (evE rfl) rfl ?_
  refine JC.skip ?_
  refine JE.seq ?_
  refine JC.seq ?_
  refine JC.block ?_
  refine JC.seq ?_
  refine JC.xq (hints := [.old (.int .u8 48)]) (ns := []) (olds := [(⟨b1, 0, none⟩, .int .u8 48)]) (ex := []) (ins := []) (F' := [(0, .string ⟨#[48, 49]⟩), (2, .int .i64 0), (3, .nilIface), (5, .string ⟨#[45, 48, 49]⟩), (6, .int .i64 0), (47, .slice (some ⟨b1, 0, none⟩) 2 cap2), (48, .int .i64 2), (49, .int .i64 0), (50, .bool true), (51, .pointer (some ⟨b1, 0, none⟩)), (52, .int .u8 48), (8, .int .u8 48)]) hM (by kernel_rfl) (by intro p hp; obtain rfl := List.mem_singleton.1 hp; exact ⟨rfl, (hcell_b1 0 48 rfl)⟩) trivial ?_
  refine JE.seq ?_
  refine JC.seq ?_
  refine JC.xp [(0, .string ⟨#[48, 49]⟩), (2, .int .i64 0), (3, .nilIface), (5, .string ⟨#[45, 48, 49]⟩), (6, .int .i64 0), (47, .slice (some ⟨b1, 0, none⟩) 2 cap2), (48, .int .i64 2), (49, .int .i64 0), (50, .bool true), (51, .pointer (some ⟨b1, 0, none⟩)), (52, .int .u8 48), (8, .int .u8 0), (53, .int .u8 48), (54, .int .u8 0)] (by kernel_rfl) ?_
  refine JE.seq ?_
  refine JC.seq ?_
  refine JC.seq ?_
  refine JC.xp [(0, .string ⟨#[48, 49]⟩), (2, .int .i64 0), (3, .nilIface), (5, .string ⟨#[45, 48, 49]⟩), (6, .int .i64 0), (47, .slice (some ⟨b1, 0, none⟩) 2 cap2), (48, .int .i64 2), (49, .int .i64 0), (50, .bool true), (51, .pointer (some ⟨b1, 0, none⟩)), (52, .int .u8 48), (8, .int .u8 0), (53, .int .u8 48), (54, .int .u8 0), (55, .int .u8 0), (56, .bool false)] (by kernel_rfl) ?_
  refine JE.seq ?_
  refine JC.condF (evE rfl) rfl ?_
  refine JC.skip ?_
  refine JE.seq ?_
  refine JC.xp [(0, .string ⟨#[48, 49]⟩), (2, .int .i64 0), (3, .nilIface), (5, .string ⟨#[45, 48, 49]⟩), (6, .int .i64 0), (47, .slice (some ⟨b1, 0, none⟩) 2 cap2), (48, .int .i64 2), (49, .int .i64 0), (50, .bool true), (51, .pointer (some ⟨b1, 0, none⟩)), (52, .int .u8 48), (8, .int .u8 0), (53, .int .u8 48), (54, .int .u8 0), (55, .int .u8 0), (56, .bool false), (58, .int .i64 0), (59, .int .i64 0), (60, .int .u8 0), (61, .int .i64 0), (62, .int .i64 0)] (by kernel_rfl) ?_
  refine JE.blk ?_
  refine JE.seq ?_
  refine JC.xp [(0, .string ⟨#[48, 49]⟩), (2, .int .i64 0), (3, .nilIface), (5, .string ⟨#[45, 48, 49]⟩), (6, .int .i64 0), (47, .slice (some ⟨b1, 0, none⟩) 2 cap2), (48, .int .i64 2), (49, .int .i64 1), (50, .bool true), (51, .pointer (some ⟨b1, 0, none⟩)), (52, .int .u8 48), (8, .int .u8 0), (53, .int .u8 48), (54, .int .u8 0), (55, .int .u8 0), (56, .bool false), (58, .int .i64 0), (59, .int .i64 0), (60, .int .u8 0), (61, .int .i64 0), (62, .int .i64 0), (63, .int .i64 1)] (by kernel_rfl) ?_
  refine JE.round ?_
  refine JC.seq ?_
  refine JC.xp [(0, .string ⟨#[48, 49]⟩), (2, .int .i64 0), (3, .nilIface), (5, .string ⟨#[45, 48, 49]⟩), (6, .int .i64 0), (47, .slice (some ⟨b1, 0, none⟩) 2 cap2), (48, .int .i64 2), (49, .int .i64 1), (50, .bool true), (51, .pointer (some ⟨b1, 0, none⟩)), (52, .int .u8 48), (8, .int .u8 0), (53, .int .u8 48), (54, .int .u8 0), (55, .int .u8 0), (56, .bool false), (58, .int .i64 0), (59, .int .i64 0), (60, .int .u8 0), (61, .int .i64 0), (62, .int .i64 0), (63, .int .i64 1)] (by kernel_rfl) ?_
  refine JE.seq ?_
  refine JC.seq ?_
  refine JC.condT (evE rfl) rfl ?_
  refine JC.skip ?_
  refine JE.seq ?_
  refine JC.seq ?_
  refine JC.block ?_
  refine JC.seq ?_
  refine JC.xq (hints := [.old (.int .u8 49)]) (ns := []) (olds := [(⟨b1, 1, none⟩, .int .u8 49)]) (ex := []) (ins := []) (F' := [(0, .string ⟨#[48, 49]⟩), (2, .int .i64 0), (3, .nilIface), (5, .string ⟨#[45, 48, 49]⟩), (6, .int .i64 0), (47, .slice (some ⟨b1, 0, none⟩) 2 cap2), (48, .int .i64 2), (49, .int .i64 1), (50, .bool true), (51, .pointer (some ⟨b1, 1, none⟩)), (52, .int .u8 49), (8, .int .u8 49), (53, .int .u8 48), (54, .int .u8 0), (55, .int .u8 0), (56, .bool false), (58, .int .i64 0), (59, .int .i64 0), (60, .int .u8 0), (61, .int .i64 0), (62, .int .i64 0), (63, .int .i64 1)]) hM (by kernel_rfl) (by intro p hp; obtain rfl := List.mem_singleton.1 hp; exact ⟨rfl, (hcell_b1 1 49 rfl)⟩) trivial ?_
  refine JE.seq ?_
  refine JC.seq ?_
  refine JC.xp [(0, .string ⟨#[48, 49]⟩), (2, .int .i64 0), (3, .nilIface), (5, .string ⟨#[45, 48, 49]⟩), (6, .int .i64 0), (47, .slice (some ⟨b1, 0, none⟩) 2 cap2), (48, .int .i64 2), (49, .int .i64 1), (50, .bool true), (51, .pointer (some ⟨b1, 1, none⟩)), (52, .int .u8 49), (8, .int .u8 1), (53, .int .u8 49), (54, .int .u8 1), (55, .int .u8 0), (56, .bool false), (58, .int .i64 0), (59, .int .i64 0), (60, .int .u8 0), (61, .int .i64 0), (62, .int .i64 0), (63, .int .i64 1)] (by kernel_rfl) ?_
  refine JE.seq ?_
  refine JC.seq ?_
  refine JC.seq ?_
  refine JC.xp [(0, .string ⟨#[48, 49]⟩), (2, .int .i64 0), (3, .nilIface), (5, .string ⟨#[45, 48, 49]⟩), (6, .int .i64 0), (47, .slice (some ⟨b1, 0, none⟩) 2 cap2), (48, .int .i64 2), (49, .int .i64 1), (50, .bool true), (51, .pointer (some ⟨b1, 1, none⟩)), (52, .int .u8 49), (8, .int .u8 1), (53, .int .u8 49), (54, .int .u8 1), (55, .int .u8 1), (56, .bool false), (58, .int .i64 0), (59, .int .i64 0), (60, .int .u8 0), (61, .int .i64 0), (62, .int .i64 0), (63, .int .i64 1)] (by kernel_rfl) ?_
  refine JE.seq ?_
  refine JC.condF (evE rfl) rfl ?_
  refine JC.skip ?_
  refine JE.seq ?_
  refine JC.xp [(0, .string ⟨#[48, 49]⟩), (2, .int .i64 0), (3, .nilIface), (5, .string ⟨#[45, 48, 49]⟩), (6, .int .i64 1), (47, .slice (some ⟨b1, 0, none⟩) 2 cap2), (48, .int .i64 2), (49, .int .i64 1), (50, .bool true), (51, .pointer (some ⟨b1, 1, none⟩)), (52, .int .u8 49), (8, .int .u8 1), (53, .int .u8 49), (54, .int .u8 1), (55, .int .u8 1), (56, .bool false), (58, .int .i64 0), (59, .int .i64 0), (60, .int .u8 1), (61, .int .i64 1), (62, .int .i64 1), (63, .int .i64 1)] (by kernel_rfl) ?_
  refine JE.blk ?_
  refine JE.seq ?_
  refine JC.xp [(0, .string ⟨#[48, 49]⟩), (2, .int .i64 0), (3, .nilIface), (5, .string ⟨#[45, 48, 49]⟩), (6, .int .i64 1), (47, .slice (some ⟨b1, 0, none⟩) 2 cap2), (48, .int .i64 2), (49, .int .i64 2), (50, .bool true), (51, .pointer (some ⟨b1, 1, none⟩)), (52, .int .u8 49), (8, .int .u8 1), (53, .int .u8 49), (54, .int .u8 1), (55, .int .u8 1), (56, .bool false), (58, .int .i64 0), (59, .int .i64 0), (60, .int .u8 1), (61, .int .i64 1), (62, .int .i64 1), (63, .int .i64 2)] (by kernel_rfl) ?_
  refine JE.round ?_
  refine JC.seq ?_
  refine JC.xp [(0, .string ⟨#[48, 49]⟩), (2, .int .i64 0), (3, .nilIface), (5, .string ⟨#[45, 48, 49]⟩), (6, .int .i64 1), (47, .slice (some ⟨b1, 0, none⟩) 2 cap2), (48, .int .i64 2), (49, .int .i64 2), (50, .bool false), (51, .pointer (some ⟨b1, 1, none⟩)), (52, .int .u8 49), (8, .int .u8 1), (53, .int .u8 49), (54, .int .u8 1), (55, .int .u8 1), (56, .bool false), (58, .int .i64 0), (59, .int .i64 0), (60, .int .u8 1), (61, .int .i64 1), (62, .int .i64 1), (63, .int .i64 2)] (by kernel_rfl) ?_
  refine JE.seq ?_
  refine JC.seq ?_
  refine JC.condF (evE rfl) rfl ?_
  refine JC.exit ?_
  refine JE.exit_seq ?_
  refine JE.exit_seq ?_
  refine JE.exit_here ?_
  refine JE.seq ?_
  refine JC.seq ?_
  refine JC.seq ?_
  refine JC.xp [(0, .string ⟨#[48, 49]⟩), (2, .int .i64 0), (3, .nilIface), (6, .int .i64 1), (66, .bool true)] (by kernel_rfl) ?_
  refine JE.seq ?_
  refine JC.condT (evE rfl) rfl ?_
  refine JC.xp [(0, .string ⟨#[48, 49]⟩), (2, .int .i64 0), (3, .nilIface), (6, .int .i64 (-1))] (by kernel_rfl) ?_
  refine JE.seq ?_
  refine JC.seq ?_
  refine JC.xp [(0, .string ⟨#[48, 49]⟩), (2, .int .i64 (-1)), (3, .nilIface)] (by kernel_rfl) ?_
  refine JE.seq ?_
  refine JC.ret ?_
  refine JE.ret_seq ?_
  refine JE.retx (vs := [.int .i64 (-1), .nilIface]) (hints := []) (ns := []) (Mem.init _) @Tryz.results86 (by kernel_rfl) ?_
  exact ⟨rfl, hK.no hM.chNo⟩

set_option maxHeartbeats 400000 in
theorem atoi_run (w : World) :
    Calls Tryz.prog 60 #[.string ⟨#[45, 48, 49]⟩] w fun e w' => e = .returned (.tuple #[.int .i64 (-1), .nilIface]) ∧ Ch No w w' := by
  have hM : Mem w [] (cellsOf w) [] w := Mem.init w
  refine calls @Tryz.func60 rfl @Tryz.ntmps60 rfl ?_
  show JC _ _ _ _ _ [(0, .string ⟨#[45, 48, 49]⟩)] _
  refine JC.seq ?_
  refine JC.xp [(0, .string ⟨#[45, 48, 49]⟩), (2, .int .i64 0), (3, .nilIface)] (by kernel_rfl) ?_
  refine JE.seq ?_
  refine JC.seq ?_
  refine JC.region ?_
  refine JL.xp 1 [(0, .string ⟨#[45, 48, 49]⟩), (2, .int .i64 0), (3, .nilIface), (7, .string ⟨#[45, 48, 49]⟩)] (by kernel_rfl) ?_
  refine JL.call rfl (Run.callF (vs := [.string ⟨#[45, 48, 49]⟩]) @Tryz.call86 rfl) (iatoi_run _) ?_
  rintro e w1 ⟨rfl, hc⟩
  refine JRet.ret ?_
  replace hM := hM.no hc
  refine JL.xp 5 [(0, .string ⟨#[45, 48, 49]⟩), (2, .int .i64 0), (3, .nilIface), (4, .int .i64 (-1)), (5, .nilIface)] (by kernel_rfl) ?_
  refine JL.nil ?_
  refine JE.seq ?_
  refine JC.seq ?_
  refine JC.seq ?_
  refine JC.xp [(0, .string ⟨#[45, 48, 49]⟩), (2, .int .i64 0), (3, .nilIface), (4, .int .i64 (-1)), (5, .nilIface), (12, .bool false)] (by kernel_rfl) ?_
  refine JE.seq ?_
  refine JC.condF (evE rfl) rfl ?_
  refine JC.skip ?_
  refine JE.seq ?_
  refine JC.seq ?_
  refine JC.xp [(2, .int .i64 (-1)), (3, .nilIface)] (by kernel_rfl) ?_
  refine JE.seq ?_
  refine JC.ret ?_
  refine JE.retx (vs := [.int .i64 (-1), .nilIface]) (hints := []) (ns := []) (Mem.init _) @Tryz.results60 (by kernel_rfl) ?_
  exact ⟨rfl, hM.chNo⟩

set_option maxHeartbeats 400000 in
theorem shown_run (w : World) {φ : Fz} (hag : Agree w φ) (fb fo fc : Nat) (ho : Olds φ (needs fb fo fc)) :
    Calls Tryz.prog 35 #[.float .f64 13826050856027422720, .int .i64 64] w fun e w' => e = .returned (.string (⟨#[45, 48, 46, 53]⟩)) ∧ Ch No w w' := by
  have hM : Mem w [] φ [] w := Mem.nil [] hag
  refine calls @Tryz.func35 rfl @Tryz.ntmps35 rfl ?_
  show JC _ _ _ _ _ [(0, .float .f64 13826050856027422720), (1, .int .i64 64)] _
  refine JC.seq ?_
  refine JC.xp [(0, .float .f64 13826050856027422720), (1, .int .i64 64), (4, .string ⟨#[]⟩)] (by kernel_rfl) ?_
  refine JE.seq ?_
  refine JC.seq ?_
  refine JC.block ?_
  refine JC.seq ?_
  refine JC.region ?_
  refine JL.xp 1 [(0, .float .f64 13826050856027422720), (1, .int .i64 64), (4, .string ⟨#[]⟩), (11, .float .f64 13826050856027422720)] (by kernel_rfl) ?_
  refine JL.call rfl (Run.callF (vs := [.float .f64 13826050856027422720]) @Tryz.call49 rfl) (isNaN_half _) ?_
  rintro e w ⟨rfl, rfl⟩
  refine JRet.ret ?_
  refine JL.xp 1 [(0, .float .f64 13826050856027422720), (1, .int .i64 64), (4, .string ⟨#[]⟩), (10, .bool false)] (by kernel_rfl) ?_
  refine JL.nil ?_
  refine JE.seq ?_
  refine JC.condF (evE rfl) rfl ?_
  refine JC.seq ?_
  refine JC.region ?_
  refine JL.xp 1 [(0, .float .f64 13826050856027422720), (1, .int .i64 64), (4, .string ⟨#[]⟩), (14, .float .f64 13826050856027422720)] (by kernel_rfl) ?_
  refine JL.call rfl (Run.callF (vs := [.float .f64 13826050856027422720, .int .i64 1]) @Tryz.call50 rfl) (isInf_half1 _) ?_
  rintro e w ⟨rfl, rfl⟩
  refine JRet.ret ?_
  refine JL.xp 1 [(0, .float .f64 13826050856027422720), (1, .int .i64 64), (4, .string ⟨#[]⟩), (13, .bool false)] (by kernel_rfl) ?_
  refine JL.nil ?_
  refine JE.seq ?_
  refine JC.condF (evE rfl) rfl ?_
  refine JC.seq ?_
  refine JC.region ?_
  refine JL.xp 1 [(0, .float .f64 13826050856027422720), (1, .int .i64 64), (4, .string ⟨#[]⟩), (17, .float .f64 13826050856027422720)] (by kernel_rfl) ?_
  refine JL.call rfl (Run.callF (vs := [.float .f64 13826050856027422720, .int .i64 (-1)]) @Tryz.call50 rfl) (isInf_half2 _) ?_
  rintro e w ⟨rfl, rfl⟩
  refine JRet.ret ?_
  refine JL.xp 1 [(0, .float .f64 13826050856027422720), (1, .int .i64 64), (4, .string ⟨#[]⟩), (16, .bool false)] (by kernel_rfl) ?_
  refine JL.nil ?_
  refine JE.seq ?_
  refine JC.condF (evE rfl) rfl ?_
  refine JC.skip ?_
  refine JE.blk ?_
  refine JE.seq ?_
  refine JC.seq ?_
  refine JC.region ?_
  refine JL.xp 1 [(0, .float .f64 13826050856027422720), (1, .int .i64 64), (4, .string ⟨#[]⟩), (19, .float .f64 13826050856027422720)] (by kernel_rfl) ?_
  refine JL.call rfl (Run.callF (vs := [.float .f64 13826050856027422720]) @Tryz.call58 rfl) (abs_half _) ?_
  rintro e w ⟨rfl, rfl⟩
  refine JRet.ret ?_
  refine JL.xp 1 [(0, .float .f64 13826050856027422720), (4, .string ⟨#[]⟩), (20, .float .f64 4602678819172646912), (21, .int .i64 64)] (by kernel_rfl) ?_
  refine JL.call rfl (Run.callF (vs := [.float .f64 4602678819172646912, .int .u8 101, .int .i64 (-1), .int .i64 64]) @Tryz.call57 rfl) (format_half _ fb fo fc hM.agree ho) ?_
  rintro e w1 ⟨rfl, hc⟩
  refine JRet.ret ?_
  replace hM := hM.no hc
  refine JL.xp 1 [(0, .float .f64 13826050856027422720), (4, .string ⟨#[]⟩), (5, .string ⟨#[53, 101, 45, 48, 49]⟩)] (by kernel_rfl) ?_
  refine JL.nil ?_
  refine JE.seq ?_
  refine JC.seq ?_
  refine JC.region ?_
  refine JL.xp 1 [(0, .float .f64 13826050856027422720), (4, .string ⟨#[]⟩), (5, .string ⟨#[53, 101, 45, 48, 49]⟩), (23, .string ⟨#[53, 101, 45, 48, 49]⟩)] (by kernel_rfl) ?_
  refine JL.call rfl (Run.callF (vs := [.string ⟨#[53, 101, 45, 48, 49]⟩, .int .u8 101]) @Tryz.call59 rfl) (index_e _) ?_
  rintro e w1 ⟨rfl, rfl⟩
  refine JRet.ret ?_
  refine JL.xp 1 [(0, .float .f64 13826050856027422720), (4, .string ⟨#[]⟩), (5, .string ⟨#[53, 101, 45, 48, 49]⟩), (6, .int .i64 1)] (by kernel_rfl) ?_
  refine JL.nil ?_
  refine JE.seq ?_
  refine JC.seq ?_
  refine JC.region ?_
  refine JL.xp 4 [(0, .float .f64 13826050856027422720), (4, .string ⟨#[]⟩), (5, .string ⟨#[53, 101, 45, 48, 49]⟩), (6, .int .i64 1), (29, .string ⟨#[45, 48, 49]⟩)] (by kernel_rfl) ?_
  refine JL.call rfl (Run.callF (vs := [.string ⟨#[45, 48, 49]⟩]) @Tryz.call60 rfl) (atoi_run _) ?_
  rintro e w2 ⟨rfl, hc⟩
  refine JRet.ret ?_
  replace hM := hM.no hc
  refine JL.xp 5 [(0, .float .f64 13826050856027422720), (4, .string ⟨#[]⟩), (5, .string ⟨#[53, 101, 45, 48, 49]⟩), (6, .int .i64 1), (7, .int .i64 (-1))] (by kernel_rfl) ?_
  refine JL.nil ?_
  refine JE.seq ?_
  refine JC.seq ?_
  refine JC.region ?_
  refine JL.xp 3 [(0, .float .f64 13826050856027422720), (4, .string ⟨#[]⟩), (7, .int .i64 (-1)), (35, .string ⟨#[53]⟩)] (by kernel_rfl) ?_
  refine JL.call rfl (Run.callF (vs := [.string ⟨#[53]⟩, .string ⟨#[46]⟩, .string ⟨#[]⟩, .int .i64 1]) @Tryz.call62 rfl) (replace_half _) ?_
  rintro e w3 ⟨rfl, hc⟩
  refine JRet.ret ?_
  replace hM := hM.no hc
  refine JL.xp 2 [(0, .float .f64 13826050856027422720), (4, .string ⟨#[]⟩), (36, .string ⟨#[53]⟩), (38, .int .i64 0)] (by kernel_rfl) ?_
  refine JL.call rfl (Run.callF (vs := [.string ⟨#[53]⟩, .int .i64 0]) @Tryz.call61 rfl) (laid_half _) ?_
  rintro e w4 ⟨rfl, hc⟩
  refine JRet.ret ?_
  replace hM := hM.no hc
  refine JL.xp 1 [(0, .float .f64 13826050856027422720), (4, .string ⟨#[]⟩), (9, .string ⟨#[48, 46, 53]⟩)] (by kernel_rfl) ?_
  refine JL.nil ?_
  refine JE.seq ?_
  refine JC.seq ?_
  refine JC.seq ?_
  refine JC.region ?_
  refine JL.xp 1 [(4, .string ⟨#[]⟩), (9, .string ⟨#[48, 46, 53]⟩), (40, .float .f64 13826050856027422720)] (by kernel_rfl) ?_
  refine JL.call rfl (Run.callF (vs := [.float .f64 13826050856027422720]) @Tryz.call54 rfl) (signbit_half _) ?_
  rintro e w4 ⟨rfl, rfl⟩
  refine JRet.ret ?_
  refine JL.nil ?_
  refine JE.seq ?_
  refine JC.condT (evE rfl) rfl ?_
  refine JC.seq ?_
  refine JC.xp [(4, .string ⟨#[45, 48, 46, 53]⟩), (9, .string ⟨#[48, 46, 53]⟩)] (by kernel_rfl) ?_
  refine JE.seq ?_
  refine JC.ret ?_
  refine JE.ret_seq ?_
  refine JE.retx (vs := [.string ⟨#[45, 48, 46, 53]⟩]) (hints := []) (ns := []) (Mem.init _) @Tryz.results35 (by kernel_rfl) ?_
  exact ⟨rfl, hM.chNo⟩

set_option maxHeartbeats 400000 in
theorem print_run (w : World) {φ : Fz} (hag : Agree w φ) (fb fo fc : Nat) (ho : Olds φ (needs fb fo fc)) :
    Calls Tryz.prog 9 #[.float .f64 13826050856027422720] w fun e w' => e = .returned (.string (⟨#[45, 48, 46, 53]⟩)) ∧ Ch No w w' := by
  have hM : Mem w [] φ [] w := Mem.nil [] hag
  refine calls @Tryz.func9 rfl @Tryz.ntmps9 rfl ?_
  show JC _ _ _ _ _ [(0, .float .f64 13826050856027422720)] _
  refine JC.seq ?_
  refine JC.xp [(0, .float .f64 13826050856027422720), (2, .string ⟨#[]⟩)] (by kernel_rfl) ?_
  refine JE.seq ?_
  refine JC.seq ?_
  refine JC.region ?_
  refine JL.xp 1 [(2, .string ⟨#[]⟩), (3, .float .f64 13826050856027422720)] (by kernel_rfl) ?_
  refine JL.call rfl (Run.callF (vs := [.float .f64 13826050856027422720, .int .i64 64]) @Tryz.call35 rfl) (shown_run _ hM.agree fb fo fc ho) ?_
  rintro e w1 ⟨rfl, hc⟩
  refine JRet.ret ?_
  replace hM := hM.no hc
  refine JL.xp 1 [(2, .string ⟨#[45, 48, 46, 53]⟩)] (by kernel_rfl) ?_
  refine JL.nil ?_
  refine JE.seq ?_
  refine JC.ret ?_
  refine JE.retx (vs := [.string ⟨#[45, 48, 46, 53]⟩]) (hints := []) (ns := []) (Mem.init _) @Tryz.results9 (by kernel_rfl) ?_
  exact ⟨rfl, hM.chNo⟩

set_option maxHeartbeats 400000 in
theorem wakes_run (w : World) {φ : Fz} (hag : Agree w φ) (fb fo fc : Nat) (ho : Olds φ (needs fb fo fc)) :
    Calls Tryz.prog 16 #[] w fun e w' => e = .returned (.bool true) ∧ Ch No w w' := by
  have hM : Mem w [] φ [] w := Mem.nil [] hag
  refine calls @Tryz.func16 rfl @Tryz.ntmps16 rfl ?_
  show JC _ _ _ _ _ [] _
  refine JC.seq ?_
  refine JC.xp [(0, .bool false)] (by kernel_rfl) ?_
  refine JE.seq ?_
  refine JC.seq ?_
  refine JC.region ?_
  refine JL.call rfl (Run.callF (vs := [.string ⟨#[45, 48, 46, 53]⟩]) @Tryz.call17 rfl) (parse_half _ fb fo fc hM.agree ho) ?_
  rintro e w1 ⟨rfl, hc⟩
  refine JRet.ret ?_
  replace hM := hM.no hc
  refine JL.xp 5 [(0, .bool false), (1, .float .f64 13826050856027422720), (2, .int .i64 0)] (by kernel_rfl) ?_
  refine JL.nil ?_
  refine JE.seq ?_
  refine JC.seq ?_
  refine JC.region ?_
  refine JL.xp 1 [(0, .bool false), (1, .float .f64 13826050856027422720), (7, .int .i64 0)] (by kernel_rfl) ?_
  refine JL.call rfl (Run.callF (vs := [.int .i64 0]) @Tryz.call19 rfl) (num_ok _) ?_
  rintro e w1 ⟨rfl, rfl⟩
  refine JRet.ret ?_
  refine JL.xp 3 [(0, .bool false), (1, .float .f64 13826050856027422720), (10, .bool true), (11, .float .f64 13826050856027422720)] (by kernel_rfl) ?_
  refine JL.gyes (oj := _) (by rfl) (by rfl) (lk_look rfl) ?_
  refine JL.val rfl (v := .bool true) (Run.bin (evE rfl) (evE rfl) rfl (by kernel_rfl)) ?_
  refine JL.xp 3 [(0, .bool false), (1, .float .f64 13826050856027422720), (14, .bool true), (15, .float .f64 13826050856027422720)] (by kernel_rfl) ?_
  refine JL.gyes (oj := _) (by rfl) (by rfl) (lk_look rfl) ?_
  refine JL.call rfl (Run.callF (vs := [.float .f64 13826050856027422720]) @Tryz.call9 rfl) (print_run _ hM.agree fb fo fc ho) ?_
  rintro e w2 ⟨rfl, hc⟩
  refine JRet.ret ?_
  replace hM := hM.no hc
  refine JL.xp 4 [(0, .bool false), (19, .bool true), (20, .float .f64 13826050856027422720)] (by kernel_rfl) ?_
  refine JL.gyes (oj := _) (by rfl) (by rfl) (lk_look rfl) ?_
  refine JL.call rfl (Run.callF (vs := [.float .f64 13826050856027422720]) @Tryz.call32 rfl) (half_half _) ?_
  rintro e w3 ⟨rfl, hc⟩
  refine JRet.ret ?_
  replace hM := hM.no hc
  refine JL.xp 3 [(0, .bool true)] (by kernel_rfl) ?_
  refine JL.nil ?_
  refine JE.seq ?_
  refine JC.ret ?_
  refine JE.retx (vs := [.bool true]) (hints := []) (ns := []) (Mem.init _) @Tryz.results16 (by kernel_rfl) ?_
  exact ⟨rfl, hM.chNo⟩

/-- A list of numbers of 64 bits as it lies in memory. -/
def U64s (φ : Fz) (a : Option Addr) (xs : List Nat) : Prop := ∀ i, (h : i < xs.length) → ∃ b o, a = some ⟨b, o, none⟩ ∧ φ b (o + i * 1) = some (.int .u64 (xs[i] : Int)) ∧ xs[i] < 18446744073709551616
theorem U64s.addr {φ : Fz} {b o : Nat} {xs : List Nat} (h : U64s φ (some ⟨b, o, none⟩) xs) {i : Nat} (hi : i < xs.length) : φ b (o + i * 1) = some (.int .u64 (xs[i] : Int)) ∧ xs[i] < 18446744073709551616 := by
  obtain ⟨b', o', he, h1, h2⟩ := h i hi
  cases he; exact ⟨h1, h2⟩

set_option maxHeartbeats 2000000 in
theorem order_any (w0 : World) {φ : Fz} (hag : Agree w0 φ) (fb fo fc : Nat) (ho : Olds φ (needs fb fo fc)) {a : Option Addr} {xs : List Nat} {cap : Nat} {hv : Value} (hX : U64s φ a xs) :
    Calls Tryz.prog 6 #[.agg #[.slice a xs.length cap, hv]] w0 fun e w' => e = .returned (.bool true) ∧ Ch No w0 w' := by
  have hM : Mem w0 [] φ [] w0 := Mem.nil [] hag
  refine calls @Tryz.func6 rfl @Tryz.ntmps6 rfl ?_
  show JC _ _ _ _ _ [(0, .agg #[.slice a xs.length cap, hv])] _
  refine JC.seq ?_
  refine JC.x1 (hints := []) (ns := (fun b1 => [])) (olds := (fun b1 => [])) (ones := (fun b1 => [])) (ex := []) (ins := (fun b1 => [])) (F' := (fun b1 => [(1, .pointer (some ⟨b1, 0, none⟩)), (2, .bool false)])) (H' := (fun b1 => [(b1, 25, [.slice a xs.length cap, hv])])) hM (fun b1 => by kernel_rfl) (fun b1 => Olds.nil) (fun b1 => Ones.nil) (fun b1 => trivial) (fun b1 w2 hg_b1 hc3 hM => ?_)
  refine JE.seq ?_
  refine JC.seq ?_
  refine JC.seq ?_
  refine JC.xp [(1, .pointer (some ⟨b1, 0, none⟩)), (2, .bool false), (3, .int .i64 0)] (by kernel_rfl) ?_
  refine JE.seq ?_
  refine JC.block ?_
  refine JC.loop (α := Nat) (fun i => [(1, .pointer (some ⟨b1, 0, none⟩)), (3, .int .i64 (i : Int))]) (fun i w => i ≤ 60 ∧ Mem w0 [] φ [(b1, 25, [.slice a xs.length cap, hv])] w) (fun i => 60 - i) 0 ⟨by omega, hM⟩ (subs_of (by kernel_rfl)) ?_
  rintro i w4 m5 ⟨hi, hM⟩ hmu6
  show JC _ _ _ _ _ [(1, .pointer (some ⟨b1, 0, none⟩)), (3, .int .i64 (i : Int))] _
  refine JC.seq ?_
  refine JC.seq ?_
  refine JC.region ?_
  refine JL.xq 6 (hints := [.own 0]) (ns := [b1]) (olds := []) (ex := []) (ins := []) (F' := [(1, .pointer (some ⟨b1, 0, none⟩)), (3, .int .i64 (i : Int)), (5, .int .i64 (i : Int)), (6, .pointer (some ⟨b1, 0, none⟩)), (7, .slice a xs.length cap), (8, .int .i64 (xs.length : Int)), (9, .bool (decide ((i : Int) < (xs.length : Int)))), (10, .bool (decide ((i : Int) < (xs.length : Int))))]) hM (by kernel_rfl) Olds.nil trivial ?_
  refine JL.bsplit (b := decide ((i : Int) < (xs.length : Int))) (fun g1 => ?_) (fun g1 => ?_)
  · refine JL.keep (L := [(1, .pointer (some ⟨b1, 0, none⟩)), (3, .int .i64 (i : Int)), (5, .int .i64 (i : Int)), (6, .pointer (some ⟨b1, 0, none⟩)), (7, .slice a xs.length cap), (8, .int .i64 (xs.length : Int)), (9, .bool (decide ((i : Int) < (xs.length : Int)))), (10, .bool true)]) (.cons (lk_look rfl) (.cons (lk_look rfl) (.cons (lk_look rfl) (.cons (lk_look rfl) (.cons (lk_look rfl) (.cons (lk_look rfl) (.cons (lk_look rfl) (.conse (lk_look rfl) (congrArg Value.bool g1) .nil)))))))) ?_
    refine JL.xp 3 [(1, .pointer (some ⟨b1, 0, none⟩)), (3, .int .i64 (i : Int)), (5, .int .i64 (i : Int)), (6, .pointer (some ⟨b1, 0, none⟩)), (7, .slice a xs.length cap), (8, .int .i64 (xs.length : Int)), (9, .bool (decide ((i : Int) < (xs.length : Int)))), (10, .bool true), (11, .int .i64 (i : Int)), (12, .bool (decide ((i : Int) < 60))), (13, .bool (decide ((i : Int) < 60)))] (by kernel_rfl) ?_
    refine JL.nil ?_
    refine JE.seq ?_
    refine JC.cond (evE rfl) (fun g2 => ?_) (fun g2 => ?_)
    · have g2 := of_decide_eq_true g2
      refine JC.skip ?_
      refine JE.seq ?_
      refine JC.seq ?_
      refine JC.block ?_
      refine JC.seq ?_
      refine JC.xp [(1, .pointer (some ⟨b1, 0, none⟩)), (3, .int .i64 (i : Int)), (5, .int .i64 (i : Int)), (6, .pointer (some ⟨b1, 0, none⟩)), (7, .slice a xs.length cap), (8, .int .i64 (xs.length : Int)), (9, .bool (decide ((i : Int) < (xs.length : Int)))), (10, .bool true), (11, .int .i64 (i : Int)), (12, .bool (decide ((i : Int) < 60))), (13, .bool (decide ((i : Int) < 60))), (4, .int .i64 0)] (by kernel_rfl) ?_
      refine JE.seq ?_
      refine JC.block ?_
      have hil := of_decide_eq_true g1
      refine JC.loop (α := Nat) (fun k => [(1, .pointer (some ⟨b1, 0, none⟩)), (3, .int .i64 (i : Int)), (4, .int .i64 (k : Int))]) (fun k w => k ≤ 60 ∧ Mem w0 [] φ [(b1, 25, [.slice a xs.length cap, hv])] w) (fun k => 60 - k) 0 ⟨by omega, hM⟩ (subs_of (by kernel_rfl)) ?_
      rintro k w7 m8 ⟨hk, hM⟩ hmu9
      show JC _ _ _ _ _ [(1, .pointer (some ⟨b1, 0, none⟩)), (3, .int .i64 (i : Int)), (4, .int .i64 (k : Int))] _
      refine JC.seq ?_
      refine JC.seq ?_
      refine JC.region ?_
      refine JL.xq 6 (hints := [.own 0]) (ns := [b1]) (olds := []) (ex := []) (ins := []) (F' := [(1, .pointer (some ⟨b1, 0, none⟩)), (3, .int .i64 (i : Int)), (4, .int .i64 (k : Int)), (16, .int .i64 (k : Int)), (17, .pointer (some ⟨b1, 0, none⟩)), (18, .slice a xs.length cap), (19, .int .i64 (xs.length : Int)), (20, .bool (decide ((k : Int) < (xs.length : Int)))), (21, .bool (decide ((k : Int) < (xs.length : Int))))]) hM (by kernel_rfl) Olds.nil trivial ?_
      refine JL.bsplit (b := decide ((k : Int) < (xs.length : Int))) (fun g3 => ?_) (fun g3 => ?_)
      · refine JL.keep (L := [(1, .pointer (some ⟨b1, 0, none⟩)), (3, .int .i64 (i : Int)), (4, .int .i64 (k : Int)), (16, .int .i64 (k : Int)), (17, .pointer (some ⟨b1, 0, none⟩)), (18, .slice a xs.length cap), (19, .int .i64 (xs.length : Int)), (20, .bool (decide ((k : Int) < (xs.length : Int)))), (21, .bool true)]) (.cons (lk_look rfl) (.cons (lk_look rfl) (.cons (lk_look rfl) (.cons (lk_look rfl) (.cons (lk_look rfl) (.cons (lk_look rfl) (.cons (lk_look rfl) (.cons (lk_look rfl) (.conse (lk_look rfl) (congrArg Value.bool g3) .nil))))))))) ?_
        refine JL.xp 3 [(1, .pointer (some ⟨b1, 0, none⟩)), (3, .int .i64 (i : Int)), (4, .int .i64 (k : Int)), (16, .int .i64 (k : Int)), (17, .pointer (some ⟨b1, 0, none⟩)), (18, .slice a xs.length cap), (19, .int .i64 (xs.length : Int)), (20, .bool (decide ((k : Int) < (xs.length : Int)))), (21, .bool true), (22, .int .i64 (k : Int)), (23, .bool (decide ((k : Int) < 60))), (24, .bool (decide ((k : Int) < 60)))] (by kernel_rfl) ?_
        refine JL.nil ?_
        refine JE.seq ?_
        refine JC.cond (evE rfl) (fun g4 => ?_) (fun g4 => ?_)
        · have g4 := of_decide_eq_true g4
          have hkl := of_decide_eq_true g3
          have hi1 : i < xs.length := by omega
          have hk1 : k < xs.length := by omega
          obtain ⟨b, o, rfl, -, -⟩ := hX i hi1
          have ci := (hX.addr hi1).1; have li := (hX.addr hi1).2; have ck := (hX.addr hk1).1; have lk := (hX.addr hk1).2
          refine JC.skip ?_
          refine JE.seq ?_
          refine JC.seq ?_
          refine JC.block ?_
          refine JC.seq ?_
          refine JC.anyx 25 mixed rfl hM (fun w10 hd11 hM => ?_)
          refine JA.xt 13 [0, 1, 2, 6, 7, 8, 13, 14, 15, 18, 19, 20] rfl (by kernel_rfl) (hints := [.own 0, .own 0, .own 0, .own 0]) (ns := [b1, b1, b1, b1]) (olds := []) (ex := []) (ins := []) (L' := #[true, true, true, false, false, false, true, true, true, false, false, false, false, true, true, true, false, false, true, true, true, false, false, false, false]) (F' := [(1, .pointer (some ⟨b1, 0, none⟩)), (3, .int .i64 (i : Int)), (4, .int .i64 (k : Int)), (16, .int .i64 (k : Int)), (17, .pointer (some ⟨b1, 0, none⟩)), (18, .slice (some ⟨b, o, none⟩) xs.length cap), (19, .int .i64 (xs.length : Int)), (20, .bool (decide ((k : Int) < (xs.length : Int)))), (21, .bool true), (22, .int .i64 (k : Int)), (23, .bool (decide ((k : Int) < 60))), (24, .bool (decide ((k : Int) < 60))), (27, .pointer (some ⟨b1, 0, none⟩)), (28, .slice (some ⟨b, o, none⟩) xs.length cap), (29, .int .i64 (i : Int)), (33, .pointer (some ⟨b1, 0, none⟩)), (34, .slice (some ⟨b, o, none⟩) xs.length cap), (35, .int .i64 (k : Int)), (40, .pointer (some ⟨b1, 0, none⟩)), (41, .slice (some ⟨b, o, none⟩) xs.length cap), (42, .int .i64 (i : Int)), (45, .pointer (some ⟨b1, 0, none⟩)), (46, .slice (some ⟨b, o, none⟩) xs.length cap), (47, .int .i64 (k : Int))]) (by kernel_rfl) Olds.nil trivial ?_
          refine JA.take 3 (by kernel_rfl) (by rfl) (by kernel_rfl) (by kernel_rfl) (L := #[true, true, true, true, false, false, true, true, true, false, false, false, false, true, true, true, false, false, true, true, true, false, false, false, false]) rfl rfl (v := .pointer (some ⟨b, o + i * 1, none⟩)) (fun w' hI => Run.indexAddr (m := i) @Tryz.underlying22 (@Tryz.sizeOf29 _) (evE rfl) (evE rfl) rfl (by omega) rfl) ?_
          refine JA.xt 11 [4] rfl (by kernel_rfl) (hints := [.old (.int .u64 (xs[i] : Int))]) (ns := []) (olds := [(⟨b, o + i * 1, none⟩, .int .u64 (xs[i] : Int))]) (ex := []) (ins := []) (L' := #[true, true, true, true, true, false, true, true, true, false, false, false, false, true, true, true, false, false, true, true, true, false, false, false, false]) (F' := [(1, .pointer (some ⟨b1, 0, none⟩)), (3, .int .i64 (i : Int)), (4, .int .i64 (k : Int)), (16, .int .i64 (k : Int)), (17, .pointer (some ⟨b1, 0, none⟩)), (18, .slice (some ⟨b, o, none⟩) xs.length cap), (19, .int .i64 (xs.length : Int)), (20, .bool (decide ((k : Int) < (xs.length : Int)))), (21, .bool true), (22, .int .i64 (k : Int)), (23, .bool (decide ((k : Int) < 60))), (24, .bool (decide ((k : Int) < 60))), (27, .pointer (some ⟨b1, 0, none⟩)), (28, .slice (some ⟨b, o, none⟩) xs.length cap), (29, .int .i64 (i : Int)), (33, .pointer (some ⟨b1, 0, none⟩)), (34, .slice (some ⟨b, o, none⟩) xs.length cap), (35, .int .i64 (k : Int)), (40, .pointer (some ⟨b1, 0, none⟩)), (41, .slice (some ⟨b, o, none⟩) xs.length cap), (42, .int .i64 (i : Int)), (45, .pointer (some ⟨b1, 0, none⟩)), (46, .slice (some ⟨b, o, none⟩) xs.length cap), (47, .int .i64 (k : Int)), (30, .pointer (some ⟨b, o + i * 1, none⟩)), (31, .int .u64 (xs[i] : Int))]) (by kernel_rfl) (by intro p hp; obtain rfl := List.mem_singleton.1 hp; exact ⟨rfl, ci⟩) trivial ?_
          refine JA.take 9 (by kernel_rfl) (by rfl) (by kernel_rfl) (by kernel_rfl) (L := #[true, true, true, true, true, false, true, true, true, true, false, false, false, true, true, true, false, false, true, true, true, false, false, false, false]) rfl rfl (v := .pointer (some ⟨b, o + k * 1, none⟩)) (fun w' hI => Run.indexAddr (m := k) @Tryz.underlying22 (@Tryz.sizeOf29 _) (evE rfl) (evE rfl) rfl (by omega) rfl) ?_
          refine JA.xt 9 [10] rfl (by kernel_rfl) (hints := [.old (.int .u64 (xs[k] : Int))]) (ns := []) (olds := [(⟨b, o + k * 1, none⟩, .int .u64 (xs[k] : Int))]) (ex := []) (ins := []) (L' := #[true, true, true, true, true, false, true, true, true, true, true, false, false, true, true, true, false, false, true, true, true, false, false, false, false]) (F' := [(1, .pointer (some ⟨b1, 0, none⟩)), (3, .int .i64 (i : Int)), (4, .int .i64 (k : Int)), (16, .int .i64 (k : Int)), (17, .pointer (some ⟨b1, 0, none⟩)), (18, .slice (some ⟨b, o, none⟩) xs.length cap), (19, .int .i64 (xs.length : Int)), (20, .bool (decide ((k : Int) < (xs.length : Int)))), (21, .bool true), (22, .int .i64 (k : Int)), (23, .bool (decide ((k : Int) < 60))), (24, .bool (decide ((k : Int) < 60))), (27, .pointer (some ⟨b1, 0, none⟩)), (28, .slice (some ⟨b, o, none⟩) xs.length cap), (29, .int .i64 (i : Int)), (33, .pointer (some ⟨b1, 0, none⟩)), (34, .slice (some ⟨b, o, none⟩) xs.length cap), (35, .int .i64 (k : Int)), (40, .pointer (some ⟨b1, 0, none⟩)), (41, .slice (some ⟨b, o, none⟩) xs.length cap), (42, .int .i64 (i : Int)), (45, .pointer (some ⟨b1, 0, none⟩)), (46, .slice (some ⟨b, o, none⟩) xs.length cap), (47, .int .i64 (k : Int)), (30, .pointer (some ⟨b, o + i * 1, none⟩)), (31, .int .u64 (xs[i] : Int)), (36, .pointer (some ⟨b, o + k * 1, none⟩)), (37, .int .u64 (xs[k] : Int))]) (by kernel_rfl) (by intro p hp; obtain rfl := List.mem_singleton.1 hp; exact ⟨rfl, ck⟩) trivial ?_
          refine JA.take 16 (by kernel_rfl) (by rfl) (by kernel_rfl) (by kernel_rfl) (L := #[true, true, true, true, true, false, true, true, true, true, true, false, false, true, true, true, true, false, true, true, true, false, false, false, false]) rfl rfl (v := .pointer (some ⟨b, o + i * 1, none⟩)) (fun w' hI => Run.indexAddr (m := i) @Tryz.underlying22 (@Tryz.sizeOf29 _) (evE rfl) (evE rfl) rfl (by omega) rfl) ?_
          refine JA.xt 7 [17] rfl (by kernel_rfl) (hints := [.old (.int .u64 (xs[i] : Int))]) (ns := []) (olds := [(⟨b, o + i * 1, none⟩, .int .u64 (xs[i] : Int))]) (ex := []) (ins := []) (L' := #[true, true, true, true, true, false, true, true, true, true, true, false, false, true, true, true, true, true, true, true, true, false, false, false, false]) (F' := [(1, .pointer (some ⟨b1, 0, none⟩)), (3, .int .i64 (i : Int)), (4, .int .i64 (k : Int)), (16, .int .i64 (k : Int)), (17, .pointer (some ⟨b1, 0, none⟩)), (18, .slice (some ⟨b, o, none⟩) xs.length cap), (19, .int .i64 (xs.length : Int)), (20, .bool (decide ((k : Int) < (xs.length : Int)))), (21, .bool true), (22, .int .i64 (k : Int)), (23, .bool (decide ((k : Int) < 60))), (24, .bool (decide ((k : Int) < 60))), (27, .pointer (some ⟨b1, 0, none⟩)), (28, .slice (some ⟨b, o, none⟩) xs.length cap), (29, .int .i64 (i : Int)), (33, .pointer (some ⟨b1, 0, none⟩)), (34, .slice (some ⟨b, o, none⟩) xs.length cap), (35, .int .i64 (k : Int)), (40, .pointer (some ⟨b1, 0, none⟩)), (41, .slice (some ⟨b, o, none⟩) xs.length cap), (42, .int .i64 (i : Int)), (45, .pointer (some ⟨b1, 0, none⟩)), (46, .slice (some ⟨b, o, none⟩) xs.length cap), (47, .int .i64 (k : Int)), (30, .pointer (some ⟨b, o + i * 1, none⟩)), (31, .int .u64 (xs[i] : Int)), (36, .pointer (some ⟨b, o + k * 1, none⟩)), (37, .int .u64 (xs[k] : Int)), (43, .pointer (some ⟨b, o + i * 1, none⟩)), (44, .int .u64 (xs[i] : Int))]) (by kernel_rfl) (by intro p hp; obtain rfl := List.mem_singleton.1 hp; exact ⟨rfl, ci⟩) trivial ?_
          refine JA.take 21 (by kernel_rfl) (by rfl) (by kernel_rfl) (by kernel_rfl) (L := #[true, true, true, true, true, false, true, true, true, true, true, false, false, true, true, true, true, true, true, true, true, true, false, false, false]) rfl rfl (v := .pointer (some ⟨b, o + k * 1, none⟩)) (fun w' hI => Run.indexAddr (m := k) @Tryz.underlying22 (@Tryz.sizeOf29 _) (evE rfl) (evE rfl) rfl (by omega) rfl) ?_
          refine JA.xt 5 [22] rfl (by kernel_rfl) (hints := [.old (.int .u64 (xs[k] : Int))]) (ns := []) (olds := [(⟨b, o + k * 1, none⟩, .int .u64 (xs[k] : Int))]) (ex := []) (ins := []) (L' := #[true, true, true, true, true, false, true, true, true, true, true, false, false, true, true, true, true, true, true, true, true, true, true, false, false]) (F' := [(1, .pointer (some ⟨b1, 0, none⟩)), (3, .int .i64 (i : Int)), (4, .int .i64 (k : Int)), (16, .int .i64 (k : Int)), (17, .pointer (some ⟨b1, 0, none⟩)), (18, .slice (some ⟨b, o, none⟩) xs.length cap), (19, .int .i64 (xs.length : Int)), (20, .bool (decide ((k : Int) < (xs.length : Int)))), (21, .bool true), (22, .int .i64 (k : Int)), (23, .bool (decide ((k : Int) < 60))), (24, .bool (decide ((k : Int) < 60))), (27, .pointer (some ⟨b1, 0, none⟩)), (28, .slice (some ⟨b, o, none⟩) xs.length cap), (29, .int .i64 (i : Int)), (33, .pointer (some ⟨b1, 0, none⟩)), (34, .slice (some ⟨b, o, none⟩) xs.length cap), (35, .int .i64 (k : Int)), (40, .pointer (some ⟨b1, 0, none⟩)), (41, .slice (some ⟨b, o, none⟩) xs.length cap), (42, .int .i64 (i : Int)), (45, .pointer (some ⟨b1, 0, none⟩)), (46, .slice (some ⟨b, o, none⟩) xs.length cap), (47, .int .i64 (k : Int)), (30, .pointer (some ⟨b, o + i * 1, none⟩)), (31, .int .u64 (xs[i] : Int)), (36, .pointer (some ⟨b, o + k * 1, none⟩)), (37, .int .u64 (xs[k] : Int)), (43, .pointer (some ⟨b, o + i * 1, none⟩)), (44, .int .u64 (xs[i] : Int)), (48, .pointer (some ⟨b, o + k * 1, none⟩)), (49, .int .u64 (xs[k] : Int))]) (by kernel_rfl) (by intro p hp; obtain rfl := List.mem_singleton.1 hp; exact ⟨rfl, ck⟩) trivial ?_
          refine JA.take 5 (by kernel_rfl) (by rfl) (by kernel_rfl) (by kernel_rfl) (L := #[true, true, true, true, true, true, true, true, true, true, true, false, false, true, true, true, true, true, true, true, true, true, true, false, false]) rfl rfl (v := .float .f64 (xs[i])) (fun w' hI => Run.callXq (vs := [.int .u64 (xs[i] : Int)]) (by kernel_rfl) rfl) ?_
          refine JA.take 11 (by kernel_rfl) (by rfl) (by kernel_rfl) (by kernel_rfl) (L := #[true, true, true, true, true, true, true, true, true, true, true, true, false, true, true, true, true, true, true, true, true, true, true, false, false]) rfl rfl (v := .float .f64 (xs[k])) (fun w' hI => Run.callXq (vs := [.int .u64 (xs[k] : Int)]) (by kernel_rfl) rfl) ?_
          refine JA.xc 12 hM (by rfl) (by kernel_rfl) (L' := #[true, true, true, true, true, true, true, true, true, true, true, true, true, true, true, true, true, true, true, true, true, true, true, false, false]) rfl rfl (Run.callF (vs := [.float .f64 (xs[i]), .float .f64 (xs[k])]) @Tryz.call24 rfl) (compare_any xs[i] xs[k] li lk _) ?_
          rintro e w10 ⟨rfl, rfl⟩
          refine ⟨_, rfl, ?_⟩
          refine JA.xc 23 hM (by rfl) (by kernel_rfl) (L' := #[true, true, true, true, true, true, true, true, true, true, true, true, true, true, true, true, true, true, true, true, true, true, true, true, false]) rfl rfl (Run.callF (vs := [.int .u64 (xs[i] : Int), .int .u64 (xs[k] : Int)]) @Tryz.call25 rfl) (rcompare_any xs[i] xs[k] li lk _) ?_
          rintro e w12 ⟨rfl, hc⟩
          refine ⟨_, rfl, ?_⟩
          replace hM := hM.no hc
          refine JA.xt 0 [24] rfl (by kernel_rfl) (hints := []) (ns := []) (olds := []) (ex := []) (ins := []) (L' := #[true, true, true, true, true, true, true, true, true, true, true, true, true, true, true, true, true, true, true, true, true, true, true, true, true]) (F' := [(1, .pointer (some ⟨b1, 0, none⟩)), (3, .int .i64 (i : Int)), (4, .int .i64 (k : Int)), (16, .int .i64 (k : Int)), (17, .pointer (some ⟨b1, 0, none⟩)), (18, .slice (some ⟨b, o, none⟩) xs.length cap), (19, .int .i64 (xs.length : Int)), (20, .bool (decide ((k : Int) < (xs.length : Int)))), (21, .bool true), (22, .int .i64 (k : Int)), (23, .bool (decide ((k : Int) < 60))), (24, .bool (decide ((k : Int) < 60))), (27, .pointer (some ⟨b1, 0, none⟩)), (28, .slice (some ⟨b, o, none⟩) xs.length cap), (29, .int .i64 (i : Int)), (33, .pointer (some ⟨b1, 0, none⟩)), (34, .slice (some ⟨b, o, none⟩) xs.length cap), (35, .int .i64 (k : Int)), (40, .pointer (some ⟨b1, 0, none⟩)), (41, .slice (some ⟨b, o, none⟩) xs.length cap), (42, .int .i64 (i : Int)), (45, .pointer (some ⟨b1, 0, none⟩)), (46, .slice (some ⟨b, o, none⟩) xs.length cap), (47, .int .i64 (k : Int)), (30, .pointer (some ⟨b, o + i * 1, none⟩)), (31, .int .u64 (xs[i] : Int)), (36, .pointer (some ⟨b, o + k * 1, none⟩)), (37, .int .u64 (xs[k] : Int)), (43, .pointer (some ⟨b, o + i * 1, none⟩)), (44, .int .u64 (xs[i] : Int)), (48, .pointer (some ⟨b, o + k * 1, none⟩)), (49, .int .u64 (xs[k] : Int)), (32, .float .f64 (xs[i])), (38, .float .f64 (xs[k])), (39, .int .i64 (cmpP xs[i] xs[k])), (50, .int .i64 (cmpR xs[i] xs[k])), (51, .bool ((cmpP xs[i] xs[k] : Int) != (cmpR xs[i] xs[k])))]) (by kernel_rfl) Olds.nil trivial ?_
          refine JA.xdone hM (by kernel_rfl) ?_
          refine JE.seq ?_
          refine JC.condF (evE rfl) (by rw [cmp_eq li lk]; simp) ?_
          refine JC.skip ?_
          refine JE.blk ?_
          refine JE.seq ?_
          refine JC.xi [26] [(1, .pointer (some ⟨b1, 0, none⟩)), (3, .int .i64 (i : Int)), (4, .int .i64 ((k : Int) + 1)), (16, .int .i64 (k : Int)), (17, .pointer (some ⟨b1, 0, none⟩)), (18, .slice (some ⟨b, o, none⟩) xs.length cap), (19, .int .i64 (xs.length : Int)), (20, .bool (decide ((k : Int) < (xs.length : Int)))), (21, .bool true), (22, .int .i64 (k : Int)), (23, .bool (decide ((k : Int) < 60))), (24, .bool (decide ((k : Int) < 60))), (27, .pointer (some ⟨b1, 0, none⟩)), (28, .slice (some ⟨b, o, none⟩) xs.length cap), (29, .int .i64 (i : Int)), (33, .pointer (some ⟨b1, 0, none⟩)), (34, .slice (some ⟨b, o, none⟩) xs.length cap), (35, .int .i64 (k : Int)), (40, .pointer (some ⟨b1, 0, none⟩)), (41, .slice (some ⟨b, o, none⟩) xs.length cap), (42, .int .i64 (i : Int)), (45, .pointer (some ⟨b1, 0, none⟩)), (46, .slice (some ⟨b, o, none⟩) xs.length cap), (47, .int .i64 (k : Int)), (30, .pointer (some ⟨b, o + i * 1, none⟩)), (31, .int .u64 (xs[i] : Int)), (36, .pointer (some ⟨b, o + k * 1, none⟩)), (37, .int .u64 (xs[k] : Int)), (43, .pointer (some ⟨b, o + i * 1, none⟩)), (44, .int .u64 (xs[i] : Int)), (48, .pointer (some ⟨b, o + k * 1, none⟩)), (49, .int .u64 (xs[k] : Int)), (32, .float .f64 (xs[i])), (38, .float .f64 (xs[k])), (39, .int .i64 (cmpP xs[i] xs[k])), (50, .int .i64 (cmpR xs[i] xs[k])), (51, .bool ((cmpP xs[i] xs[k] : Int) != (cmpR xs[i] xs[k]))), (25, .int .i64 (k : Int)), (26, .int .i64 ((k : Int) + 1))] [(.i64, (k : Int) + 1)] (by kernel_rfl) (by simp only [Ins, kmin, kmax, and_true]; (repeat' apply And.intro) <;> omega) ?_
          exact JE.again (k + 1) (subs_of (by kernel_rfl)) (⟨by omega, hM⟩) (by simp only [hmu9]; omega)
        · have g4 := of_decide_eq_false g4
          refine JC.exit ?_
          refine JE.exit_seq ?_
          refine JE.exit_seq ?_
          refine JE.exit_here ?_
          refine JE.blk ?_
          refine JE.seq ?_
          refine JC.xi [15] [(1, .pointer (some ⟨b1, 0, none⟩)), (3, .int .i64 ((i : Int) + 1)), (4, .int .i64 (k : Int)), (16, .int .i64 (k : Int)), (17, .pointer (some ⟨b1, 0, none⟩)), (18, .slice a xs.length cap), (19, .int .i64 (xs.length : Int)), (20, .bool (decide ((k : Int) < (xs.length : Int)))), (21, .bool true), (22, .int .i64 (k : Int)), (23, .bool (decide ((k : Int) < 60))), (24, .bool (decide ((k : Int) < 60))), (14, .int .i64 (i : Int)), (15, .int .i64 ((i : Int) + 1))] [(.i64, (i : Int) + 1)] (by kernel_rfl) (by simp only [Ins, kmin, kmax, and_true]; (repeat' apply And.intro) <;> omega) ?_
          exact JE.again (i + 1) (subs_of (by kernel_rfl)) (⟨by omega, hM⟩) (by omega)
      · refine JL.keep (L := [(1, .pointer (some ⟨b1, 0, none⟩)), (3, .int .i64 (i : Int)), (4, .int .i64 (k : Int)), (16, .int .i64 (k : Int)), (17, .pointer (some ⟨b1, 0, none⟩)), (18, .slice a xs.length cap), (19, .int .i64 (xs.length : Int)), (20, .bool (decide ((k : Int) < (xs.length : Int)))), (21, .bool false)]) (.cons (lk_look rfl) (.cons (lk_look rfl) (.cons (lk_look rfl) (.cons (lk_look rfl) (.cons (lk_look rfl) (.cons (lk_look rfl) (.cons (lk_look rfl) (.cons (lk_look rfl) (.conse (lk_look rfl) (congrArg Value.bool g3) .nil))))))))) ?_
        refine JL.xp 3 [(1, .pointer (some ⟨b1, 0, none⟩)), (3, .int .i64 (i : Int)), (4, .int .i64 (k : Int)), (16, .int .i64 (k : Int)), (17, .pointer (some ⟨b1, 0, none⟩)), (18, .slice a xs.length cap), (19, .int .i64 (xs.length : Int)), (20, .bool (decide ((k : Int) < (xs.length : Int)))), (21, .bool false), (22, undef), (23, undef), (24, .bool false)] (by kernel_rfl) ?_
        refine JL.nil ?_
        refine JE.seq ?_
        refine JC.condF (evE rfl) rfl ?_
        refine JC.exit ?_
        refine JE.exit_seq ?_
        refine JE.exit_seq ?_
        refine JE.exit_here ?_
        refine JE.blk ?_
        refine JE.seq ?_
        refine JC.xi [15] [(1, .pointer (some ⟨b1, 0, none⟩)), (3, .int .i64 ((i : Int) + 1)), (4, .int .i64 (k : Int)), (16, .int .i64 (k : Int)), (17, .pointer (some ⟨b1, 0, none⟩)), (18, .slice a xs.length cap), (19, .int .i64 (xs.length : Int)), (20, .bool (decide ((k : Int) < (xs.length : Int)))), (21, .bool false), (22, undef), (23, undef), (24, .bool false), (14, .int .i64 (i : Int)), (15, .int .i64 ((i : Int) + 1))] [(.i64, (i : Int) + 1)] (by kernel_rfl) (by simp only [Ins, kmin, kmax, and_true]; (repeat' apply And.intro) <;> omega) ?_
        exact JE.again (i + 1) (subs_of (by kernel_rfl)) (⟨by omega, hM⟩) (by omega)
    · have g2 := of_decide_eq_false g2
      refine JC.exit ?_
      refine JE.exit_seq ?_
      refine JE.exit_seq ?_
      refine JE.exit_here ?_
      refine JE.seq ?_
      refine JC.seq ?_
      refine JC.region ?_
      refine JL.call rfl (Run.callF (vs := [.float .f64 0, .float .f64 13830554455654793216]) @Tryz.call26 rfl) (copysign_zero _) ?_
      rintro e w4 ⟨rfl, rfl⟩
      refine JRet.ret ?_
      refine JL.call rfl (Run.callF (vs := [.float .f64 9223372036854775808, .float .f64 0]) @Tryz.call24 rfl) (compare_any 9223372036854775808 0 (by decide) (by decide) _) ?_
      rintro e w4 ⟨rfl, rfl⟩
      refine JRet.ret ?_
      refine JL.xp 2 [(55, .bool ((cmpP 9223372036854775808 0 : Int) == (-1)))] (by kernel_rfl) ?_
      have hcz : (cmpP 9223372036854775808 0 == -1) = true := by decide
      refine JL.keep (L := [(55, .bool true)]) (.conse (lk_look rfl) (congrArg Value.bool hcz) .nil) ?_
      refine JL.gyes (oj := _) (by rfl) (by rfl) (lk_look rfl) ?_
      refine JL.call rfl (Run.callF (vs := []) @Tryz.call16 rfl) (wakes_run _ hM.agree fb fo fc ho) ?_
      rintro e w13 ⟨rfl, hc⟩
      refine JRet.ret ?_
      replace hM := hM.no hc
      refine JL.xp 2 [(2, .bool true)] (by kernel_rfl) ?_
      refine JL.nil ?_
      refine JE.seq ?_
      refine JC.ret ?_
      refine JE.retx (vs := [.bool true]) (hints := []) (ns := []) (Mem.init _) @Tryz.results6 (by kernel_rfl) ?_
      exact ⟨rfl, hM.chNo⟩
  · refine JL.keep (L := [(1, .pointer (some ⟨b1, 0, none⟩)), (3, .int .i64 (i : Int)), (5, .int .i64 (i : Int)), (6, .pointer (some ⟨b1, 0, none⟩)), (7, .slice a xs.length cap), (8, .int .i64 (xs.length : Int)), (9, .bool (decide ((i : Int) < (xs.length : Int)))), (10, .bool false)]) (.cons (lk_look rfl) (.cons (lk_look rfl) (.cons (lk_look rfl) (.cons (lk_look rfl) (.cons (lk_look rfl) (.cons (lk_look rfl) (.cons (lk_look rfl) (.conse (lk_look rfl) (congrArg Value.bool g1) .nil)))))))) ?_
    refine JL.xp 3 [(1, .pointer (some ⟨b1, 0, none⟩)), (3, .int .i64 (i : Int)), (5, .int .i64 (i : Int)), (6, .pointer (some ⟨b1, 0, none⟩)), (7, .slice a xs.length cap), (8, .int .i64 (xs.length : Int)), (9, .bool (decide ((i : Int) < (xs.length : Int)))), (10, .bool false), (11, undef), (12, undef), (13, .bool false)] (by kernel_rfl) ?_
    refine JL.nil ?_
    refine JE.seq ?_
    refine JC.condF (evE rfl) rfl ?_
    refine JC.exit ?_
    refine JE.exit_seq ?_
    refine JE.exit_seq ?_
    refine JE.exit_here ?_
    refine JE.seq ?_
    refine JC.seq ?_
    refine JC.region ?_
    refine JL.call rfl (Run.callF (vs := [.float .f64 0, .float .f64 13830554455654793216]) @Tryz.call26 rfl) (copysign_zero _) ?_
    rintro e w4 ⟨rfl, rfl⟩
    refine JRet.ret ?_
    refine JL.call rfl (Run.callF (vs := [.float .f64 9223372036854775808, .float .f64 0]) @Tryz.call24 rfl) (compare_any 9223372036854775808 0 (by decide) (by decide) _) ?_
    rintro e w4 ⟨rfl, rfl⟩
    refine JRet.ret ?_
    refine JL.xp 2 [(55, .bool ((cmpP 9223372036854775808 0 : Int) == (-1)))] (by kernel_rfl) ?_
    have hcz : (cmpP 9223372036854775808 0 == -1) = true := by decide
    refine JL.keep (L := [(55, .bool true)]) (.conse (lk_look rfl) (congrArg Value.bool hcz) .nil) ?_
    refine JL.gyes (oj := _) (by rfl) (by rfl) (lk_look rfl) ?_
    refine JL.call rfl (Run.callF (vs := []) @Tryz.call16 rfl) (wakes_run _ hM.agree fb fo fc ho) ?_
    rintro e w14 ⟨rfl, hc⟩
    refine JRet.ret ?_
    replace hM := hM.no hc
    refine JL.xp 2 [(2, .bool true)] (by kernel_rfl) ?_
    refine JL.nil ?_
    refine JE.seq ?_
    refine JC.ret ?_
    refine JE.retx (vs := [.bool true]) (hints := []) (ns := []) (Mem.init _) @Tryz.results6 (by kernel_rfl) ?_
    exact ⟨rfl, hM.chNo⟩

end Go.Proofs.YtodeldmdbeocfaaGreatDoor.Nm
