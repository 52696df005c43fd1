/- The package variables that the waking reads, from what is laid. -/
import Derived.Test.YtodeldmdbeocfaaGreatDoorRows
import Derived.Test.YtodeldmdbeocfaaGreatDoorNmX
import Derived.Test.YtodeldmdbeocfaaGreatDoorEngRowL
namespace Go.Proofs.YtodeldmdbeocfaaGreatDoor
open Go Go.ChangeShapes Go.WideShapes Go.ChangeAt Go.RowKit Go.Deep Go.Joins Go.Lib Go.Proofs.YtodeldmdbeocfaaGreatDoor.Eng Go.Proofs.YtodeldmdbeocfaaGreatDoor.Nm
set_option linter.unusedVariables false
set_option linter.unusedSimpArgs false
set_option maxRecDepth 100000
theorem needs_of {W : World} {l : List (String × DataW Unit)} (h : laidMet Tryz.prog l W) (m1 : ("internal/strconv.optimize", Rows.laid_internal_strconv_optimize) ∈ l) (m2 : ("internal/strconv.float64info", Rows.laid_internal_strconv_float64info) ∈ l) (m3 : ("internal/strconv.float64pow10", Rows.laid_internal_strconv_float64pow10) ∈ l)
    (m4 : ("internal/strconv.pow10Tab", Rows.laid_internal_strconv_pow10Tab) ∈ l) (m5 : ("internal/strconv.uint64pow10", Rows.laid_internal_strconv_uint64pow10) ∈ l) : ∃ fb fo fc, Olds (cellsOf W) (needs fb fo fc) := by
  obtain ⟨c1, f1, p1, t1, k1⟩ := cell_of_var (laidMet.reads h m1) (by kernel_rfl : _ = some 1) (by kernel_rfl : _ = some 4)
  have e1 := trod_boolE Tryz.underlying4 t1
  obtain ⟨c2, f2, p2, t2, k2⟩ := cell_of_var (laidMet.reads h m2) (by kernel_rfl : _ = some 9) (by kernel_rfl : _ = some 212)
  have e2 := struct_int (i := 0) (k := .u64) (z := 52) Tryz.underlying212 rfl Tryz.underlying92 (by kernel_rfl) t2 rfl
  obtain ⟨c3, f3, p3, t3, k3⟩ := cell_of_var (laidMet.reads h m3) (by kernel_rfl : _ = some 14) (by kernel_rfl : _ = some 238)
  obtain ⟨fb, fo, fc, e3, h3⟩ := slice_floats Tryz.underlying238 Tryz.underlying27 (by kernel_rfl) (List.cons_ne_nil _ _) t3
  obtain ⟨c4, f4, p4, t4, k4⟩ := cell_of_var (laidMet.reads h m4) (by kernel_rfl : _ = some 10) (by kernel_rfl : _ = some 226)
  have e4 := array_pair (i := 365) (k := .u64) (x := 12800000000000000000) (y := 0) Tryz.underlying226 Tryz.underlying225 (by
    intro i f hf
    match i with
    | 0 => cases hf; exact ⟨Tryz.underlying29, rfl, by kernel_rfl⟩
    | 1 => cases hf; exact ⟨Tryz.underlying29, rfl, by kernel_rfl⟩
    | i + 2 => simp at hf) rfl (by kernel_rfl) t4 (by decide) (by kernel_rfl)
  obtain ⟨c5, f5, p5, t5, k5⟩ := cell_of_var (laidMet.reads h m5) (by kernel_rfl : _ = some 7) (by kernel_rfl : _ = some 194)
  have e5 := array_int (i := 15) (z := 1000000000000000) Tryz.underlying194 Tryz.underlying29 (by kernel_rfl) t5 (by decide) rfl
  refine ⟨fb, fo, fc, fun p hp => ?_⟩
  simp only [needs, List.mem_cons, List.mem_nil_iff, or_false] at hp
  rcases hp with rfl | rfl | rfl | rfl | rfl | rfl | rfl
  · exact ⟨rfl, k1 0 _ (by rw [e1]; rfl)⟩
  · exact ⟨rfl, k2 0 _ e2⟩
  · exact ⟨rfl, k3 0 _ (by rw [e3]; rfl)⟩
  · exact ⟨rfl, h3 1 _ (by decide) rfl⟩
  · exact ⟨rfl, k4 730 _ e4.1⟩
  · exact ⟨rfl, k4 731 _ e4.2⟩
  · exact ⟨rfl, k5 15 _ e5⟩
end Go.Proofs.YtodeldmdbeocfaaGreatDoor
