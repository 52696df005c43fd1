/- NumberWhole answers true for every input; package variables are laid as the program's text lays them. -/
import Derived.Test.YtodeldmdbeocfaaGreatDoorRows
import Derived.Test.YtodeldmdbeocfaaGreatDoorCards
import Derived.Test.YtodeldmdbeocfaaGreatDoorTie
import Derived.Test.YtodeldmdbeocfaaGreatDoorNmV
import Derived.Test.YtodeldmdbeocfaaGreatDoorEngRowL
import Derived.Test.YtodeldmdbeocfaaGreatDoorNmNd
import Derived.SevenTiedAt
namespace Go.Proofs.YtodeldmdbeocfaaGreatDoor
open Go Go.ChangeShapes Go.WideShapes Go.ChangeAt Go.RowKit Go.Deep Go.Joins Go.Lib Go.Proofs.YtodeldmdbeocfaaGreatDoor.Eng Go.Proofs.YtodeldmdbeocfaaGreatDoor.Nm
set_option linter.unusedVariables false
set_option linter.unusedSimpArgs false
set_option maxRecDepth 100000
theorem numberWhole_lifted (os : Os) (started : os.Started) (H : Type) (enc : TypeId × Value → H) :
    ReturnsInHanded {} Tryz.checked os 7 .any (fun w args => (Rows.numberWholeSpec.pre enc Tryz.prog Tryz.f7 [] false w args ∧ laidMetH Tryz.prog Rows.numberWholeRow.laid w) ∧ sizedMet enc Tryz.prog Tryz.f7 (OpenSpec.ofChange Rows.numberWholeSpec) false w args) (Rows.numberWholeSpec.post enc Tryz.prog Tryz.f7 false true false false) :=
  lift_trueL (C := Tryz.checked) (X := fun w => laidMetH Tryz.prog Rows.numberWholeRow.laid w) (fun _ _ hh h => h.of_heap hh) own started (by kernel_rfl) Tryz.func7 Tryz.params7 rfl Tryz.underlying4 laidOut (by kernel_rfl) (of_decide_eq_true (by kernel_rfl))
    (ChangeSpec.witness_shaped (enc := enc) (C := Tryz.checked) (os := os) (X := fun w _ => laidMetH Tryz.prog Rows.numberWholeRow.laid w) false (World.laidAll Tryz.prog os Rows.numberWholeRow.laid) #[.int .i64 0] 8 (World.laidAll_os _ _ _)
      (World.shaped_of_ZipB (by kernel_rfl) (by kernel_rfl)) (by kernel_rfl) (by kernel_rfl) (by kernel_rfl)
      (by rw [MakeChecks.laidMetH_plain _ _ _ (by kernel_rfl)]; exact laidMet_laidAll _ (by kernel_rfl) (by kernel_rfl))) (fun _ => rfl) rfl
    fun W b0 v d p hv h hL => by
      rw [MakeChecks.laidMetH_plain _ _ _ (by kernel_rfl)] at hL
      obtain ⟨fb, fo, fc, ho⟩ := needs_of hL (by simp [Rows.numberWholeRow]) (by simp [Rows.numberWholeRow]) (by simp [Rows.numberWholeRow]) (by simp [Rows.numberWholeRow]) (by simp [Rows.numberWholeRow])
      obtain ⟨n, rfl, -, -, hwf⟩ := open_int (P := Tryz.prog) (k := .i64) Tryz.underlying2 hv h
      simp [Lit.wf, IntKind.min, IntKind.max, IntKind.signed, IntKind.bits] at hwf
      exact whole_law n (by omega) (by omega) W (Agree.of W) fb fo fc ho
theorem numberWhole_row : Rows.NumberWholeSaid :=
  OpenClaim.holds_of_wide 7 Tryz.f7 rfl rfl rfl rfl rfl rfl rfl ⟨rfl, rfl, rfl, rfl, rfl⟩ rfl rfl rfl rfl rfl (by kernel_rfl) Tryz.func7 (by kernel_rfl)
    (of_decide_eq_true (by kernel_rfl)) (by unfold Func.isWrapper; first | (rw [if_pos (by decide +kernel)]; kernel_rfl) | (rw [if_neg (by decide +kernel)]; exact ⟨rfl, rfl⟩))
    (fun os started H enc _ => numberWhole_lifted os started H enc)
theorem numberWhole_holds : Rows.NumberWholeCardSaid :=
  Claim7.holds_tied_plain_at .later [] _ true _ _ numberWhole_row (fun _ h => by cases h) (by kernel_rfl) (fun _ h => by cases h) numberWhole_row_tie rfl ⟨rfl, rfl⟩ (by kernel_rfl) rfl
    (fun f fn hf hfn => by
      obtain rfl : f = 7 := Option.some.inj ((show Tryz.prog.funcNamed "trellis/trellislaw5.NumberWhole" = some 7 by kernel_rfl).symm.trans hf) |>.symm
      obtain rfl : fn = Tryz.f7 := (Option.some.inj (Tryz.func7.symm.trans hfn)).symm
      exact ⟨by kernel_rfl, fun j t ht => by
        rw [Tryz.params7] at ht
        have hm : t = 2 := by
          rcases j with _ | j
          · simpa using ht.symm
          · simp at ht
        subst hm
        exact (show Tryz.prog.wantsStandIn 2 = false by kernel_rfl)⟩)
    (by kernel_rfl)
#print axioms numberWhole_holds
end Go.Proofs.YtodeldmdbeocfaaGreatDoor
