/- The book looks at what it keeps: contracts of its own functions, where it keeps lists of bytes alone. -/
import Derived.Test.YtggngmmbpkoooaaBkW
namespace Go.Proofs.Ytggngmmbpkoooaa.Bk
open Go Go.Proofs.Ytggngmmbpkoooaa.Eng Go.Proofs.Ytggngmmbpkoooaa.Hd
set_option linter.unusedVariables false
set_option linter.unusedSimpArgs false
set_option maxRecDepth 4000
theorem ocell {w : World} {base b n n' cap j : Nat} {T : TypeId} {xs : List Value} {v : Value} (h : Owns w base T 1 (.slice (some ⟨b, 0, none⟩) n' cap) n xs) (hj : xs[j]? = some v) : w.cell? ⟨b, 0 + j * 1, none⟩ = some v := by
  rw [show 0 + j * 1 = j from by omega]; exact h.cell hj
theorem kept_form {w : World} {ρ : Nat → Role} {e : Value × Nat} (h : Kept w ρ e) : ∃ a cap, e.1 = .slice a (elen e.1) cap := by
  rcases h with h | ⟨k, len, cap, cs, hv, _⟩
  · rw [h]; exact ⟨_, _, rfl⟩
  · rw [hv]; exact ⟨_, _, rfl⟩
theorem kept_pos {w : World} {ρ : Nat → Role} {a : Option Addr} {n cap m : Nat} (h : Kept w ρ (.slice a n cap, m)) (h0 : 0 < n) : ∃ b, a = some ⟨b, 0, none⟩ := by
  rcases h with h | ⟨k, len, cap', cs, hv, _⟩
  · simp only at h; cases h; omega
  · simp only at hv; cases hv; exact ⟨k, rfl⟩
theorem kept_cell {w : World} {ρ : Nat → Role} {b n cap m j : Nat} (h : Kept w ρ (.slice (some ⟨b, 0, none⟩) n cap, m)) (hj : j < n) : w.cell? ⟨b, 0 + j * 1, none⟩ = some (bv (at8 m j)) := by
  rcases h with h | ⟨k, len, cap', cs, hv, _, hB, _, _, _, hc⟩
  · simp only at h; cases h
  · simp only at hv; cases hv
    rw [show 0 + j * 1 = j from by omega]; exact hB.cell (hc j hj)
theorem kept_len {w : World} {ρ : Nat → Role} {a : Option Addr} {n cap m : Nat} (h : Kept w ρ (.slice a n cap, m)) : n ≤ 9223372036854775807 := by
  rcases h with h | ⟨k, len, cap', cs, hv, _, hB, _, h1, h2, hc⟩
  · simp only at h; cases h; omega
  · simp only at hv; cases hv; omega

set_option maxHeartbeats 4000000 in
theorem growRows_any {bb : Nat} {v1 v2 : Value} {s : BookS} (w0 : World) (B : Blk w0 bb 46 (bookCells v1 v2 s)) :
    Calls Try.prog 41 #[.pointer (some ⟨bb, 0, none⟩)] w0 fun e w' => e = .returned (.tuple #[]) ∧ Ch (One bb) w0 w' ∧ Blk w' bb 46 (bookCells v1 v2 s) := by
  have hK : Ch (One bb) w0 w0 := Ch.refl w0
  refine calls @Try.func41 rfl @Try.ntmps41 rfl ?_
  show JC _ _ _ _ _ [(0, .pointer (some ⟨bb, 0, none⟩))] _
  refine JC.seq ?_
  refine JC.region ?_
  refine JL.val rfl (Run.move (.tmp .here)) ?_
  refine JL.val rfl (Run.nilPtr (.tmp .here)) ?_
  refine JL.val rfl (Run.fieldAddr (ft := 28) (foff := 3) (off := 3) @Try.underlying46 (by rfl) (@Try.sizeOf28 _) rfl rfl (.tmp .here)) ?_
  refine JL.val rfl (Run.loadB (@Try.isAgg28 _) (.tmp .here) B (by rfl)) ?_
  refine JL.val rfl (Run.len @Try.underlying28 (.tmp .here)) ?_
  refine JL.val rfl (Run.assign (.tmp .here)) ?_
  refine JL.nil ?_
  refine JE.seq ?_
  refine JC.seq ?_
  refine JC.seq ?_
  refine JC.region ?_
  refine JL.val rfl (Run.move (.tmp (.there rfl (.there rfl (.there rfl (.there rfl (.there rfl (.there rfl .here)))))))) ?_
  refine JL.val rfl (Run.nilPtr (.tmp .here)) ?_
  refine JL.val rfl (Run.fieldAddr (ft := 3) (foff := 5) (off := 5) @Try.underlying46 (by rfl) (@Try.sizeOf3 _) rfl rfl (.tmp .here)) ?_
  refine JL.val rfl (Run.loadB (@Try.isAgg3 _) (.tmp .here) B (by rfl)) ?_
  refine JL.val rfl (Run.assign (.tmp .here)) ?_
  refine JL.nil ?_
  refine JE.keep (L := _) (.cons .here (.cons (.there rfl (.there rfl (.there rfl (.there rfl (.there rfl .here))))) (.cons (.there rfl (.there rfl (.there rfl (.there rfl (.there rfl (.there rfl (.there rfl (.there rfl (.there rfl (.there rfl (.there rfl .here))))))))))) .nil))) ?_
  refine JE.seq ?_
  refine JC.block ?_
  refine JC.loop (α := Nat) (fun z => [(3, .int .i64 0), (2, .int .i64 0), (0, .pointer (some ⟨bb, 0, none⟩))]) (fun z w => Blk w bb 46 (bookCells v1 v2 s) ∧ Ch (One bb) w0 w) (fun z => 0) 0 ⟨B, hK⟩ (.conse .here (rfl) (.conse (.there rfl .here) (rfl) (.cons (.there rfl (.there rfl .here)) .nil))) ?_
  rintro z w1 m2 ⟨B, hK⟩ hmu3
  show JC _ _ _ _ _ [(3, .int .i64 0), (2, .int .i64 0), (0, .pointer (some ⟨bb, 0, none⟩))] _
  refine JC.seq ?_
  refine JC.seq ?_
  refine JC.region ?_
  refine JL.val rfl (Run.move (.tmp .here)) ?_
  refine JL.val rfl (Run.move (.tmp (.there rfl (.there rfl .here)))) ?_
  refine JL.val rfl (Run.lss (.tmp (.there rfl .here)) (.tmp .here)) ?_
  refine JL.nil ?_
  refine JE.seq ?_
  refine JC.condF (.tmp .here) (by decide) ?_
  refine JC.exit ?_
  refine JE.exit_seq ?_
  refine JE.exit_seq ?_
  refine JE.exit_here ?_
  refine JE.seq ?_
  refine JC.region ?_
  refine JL.val rfl (Run.move (.tmp (.there rfl (.there rfl (.there rfl (.there rfl (.there rfl .here))))))) ?_
  refine JL.val rfl (Run.move (.tmp (.there rfl (.there rfl (.there rfl (.there rfl (.there rfl (.there rfl .here)))))))) ?_
  refine JL.val rfl (Run.nilPtr (.tmp .here)) ?_
  refine JL.val rfl (Run.fieldAddr (ft := 28) (foff := 3) (off := 3) @Try.underlying46 (by rfl) (@Try.sizeOf28 _) rfl rfl (.tmp .here)) ?_
  refine JL.val rfl (Run.loadB (@Try.isAgg28 _) (.tmp .here) B (by rfl)) ?_
  refine JL.val rfl (Run.len @Try.underlying28 (.tmp .here)) ?_
  refine JL.val rfl (Run.nilPtr (.tmp (.there rfl (.there rfl (.there rfl (.there rfl (.there rfl .here))))))) ?_
  refine JL.val rfl (Run.fieldAddr (ft := 3) (foff := 5) (off := 5) @Try.underlying46 (by rfl) (@Try.sizeOf3 _) rfl rfl (.tmp .here)) ?_
  refine JL.storeB (@Try.sizeOf3 _) (.tmp .here) (.tmp (.there rfl (.there rfl .here))) (by rfl) (by rfl) B rfl ?_
  intro w4 hc5 hb6
  replace B := hb6; clear hb6
  refine JL.nil ?_
  refine JE.keep (L := _) .nil ?_
  refine JE.end0 @Try.results41 ?_
  exact ⟨rfl, hK.trans hc5, B⟩

set_option maxHeartbeats 4000000 in
theorem growTexts_any {bb : Nat} {v1 v2 : Value} {s : BookS} (w0 : World) (B : Blk w0 bb 46 (bookCells v1 v2 s)) :
    Calls Try.prog 42 #[.pointer (some ⟨bb, 0, none⟩)] w0 fun e w' => e = .returned (.tuple #[]) ∧ Ch (One bb) w0 w' ∧ Blk w' bb 46 (bookCells v1 v2 s) := by
  have hK : Ch (One bb) w0 w0 := Ch.refl w0
  refine calls @Try.func42 rfl @Try.ntmps42 rfl ?_
  show JC _ _ _ _ _ [(0, .pointer (some ⟨bb, 0, none⟩))] _
  refine JC.seq ?_
  refine JC.region ?_
  refine JL.val rfl (Run.move (.tmp .here)) ?_
  refine JL.val rfl (Run.nilPtr (.tmp .here)) ?_
  refine JL.val rfl (Run.fieldAddr (ft := 29) (foff := 6) (off := 6) @Try.underlying46 (by rfl) (@Try.sizeOf29 _) rfl rfl (.tmp .here)) ?_
  refine JL.val rfl (Run.loadB (@Try.isAgg29 _) (.tmp .here) B (by rfl)) ?_
  refine JL.val rfl (Run.len @Try.underlying29 (.tmp .here)) ?_
  refine JL.val rfl (Run.assign (.tmp .here)) ?_
  refine JL.nil ?_
  refine JE.seq ?_
  refine JC.seq ?_
  refine JC.seq ?_
  refine JC.region ?_
  refine JL.val rfl (Run.move (.tmp (.there rfl (.there rfl (.there rfl (.there rfl (.there rfl (.there rfl .here)))))))) ?_
  refine JL.val rfl (Run.nilPtr (.tmp .here)) ?_
  refine JL.val rfl (Run.fieldAddr (ft := 3) (foff := 8) (off := 8) @Try.underlying46 (by rfl) (@Try.sizeOf3 _) rfl rfl (.tmp .here)) ?_
  refine JL.val rfl (Run.loadB (@Try.isAgg3 _) (.tmp .here) B (by rfl)) ?_
  refine JL.val rfl (Run.assign (.tmp .here)) ?_
  refine JL.nil ?_
  refine JE.keep (L := _) (.cons .here (.cons (.there rfl (.there rfl (.there rfl (.there rfl (.there rfl .here))))) (.cons (.there rfl (.there rfl (.there rfl (.there rfl (.there rfl (.there rfl (.there rfl (.there rfl (.there rfl (.there rfl (.there rfl .here))))))))))) .nil))) ?_
  refine JE.seq ?_
  refine JC.block ?_
  refine JC.loop (α := Nat) (fun z => [(3, .int .i64 0), (2, .int .i64 0), (0, .pointer (some ⟨bb, 0, none⟩))]) (fun z w => Blk w bb 46 (bookCells v1 v2 s) ∧ Ch (One bb) w0 w) (fun z => 0) 0 ⟨B, hK⟩ (.conse .here (rfl) (.conse (.there rfl .here) (rfl) (.cons (.there rfl (.there rfl .here)) .nil))) ?_
  rintro z w1 m2 ⟨B, hK⟩ hmu3
  show JC _ _ _ _ _ [(3, .int .i64 0), (2, .int .i64 0), (0, .pointer (some ⟨bb, 0, none⟩))] _
  refine JC.seq ?_
  refine JC.seq ?_
  refine JC.region ?_
  refine JL.val rfl (Run.move (.tmp .here)) ?_
  refine JL.val rfl (Run.move (.tmp (.there rfl (.there rfl .here)))) ?_
  refine JL.val rfl (Run.lss (.tmp (.there rfl .here)) (.tmp .here)) ?_
  refine JL.nil ?_
  refine JE.seq ?_
  refine JC.condF (.tmp .here) (by decide) ?_
  refine JC.exit ?_
  refine JE.exit_seq ?_
  refine JE.exit_seq ?_
  refine JE.exit_here ?_
  refine JE.seq ?_
  refine JC.region ?_
  refine JL.val rfl (Run.move (.tmp (.there rfl (.there rfl (.there rfl (.there rfl (.there rfl .here))))))) ?_
  refine JL.val rfl (Run.move (.tmp (.there rfl (.there rfl (.there rfl (.there rfl (.there rfl (.there rfl .here)))))))) ?_
  refine JL.val rfl (Run.nilPtr (.tmp .here)) ?_
  refine JL.val rfl (Run.fieldAddr (ft := 29) (foff := 6) (off := 6) @Try.underlying46 (by rfl) (@Try.sizeOf29 _) rfl rfl (.tmp .here)) ?_
  refine JL.val rfl (Run.loadB (@Try.isAgg29 _) (.tmp .here) B (by rfl)) ?_
  refine JL.val rfl (Run.len @Try.underlying29 (.tmp .here)) ?_
  refine JL.val rfl (Run.nilPtr (.tmp (.there rfl (.there rfl (.there rfl (.there rfl (.there rfl .here))))))) ?_
  refine JL.val rfl (Run.fieldAddr (ft := 3) (foff := 8) (off := 8) @Try.underlying46 (by rfl) (@Try.sizeOf3 _) rfl rfl (.tmp .here)) ?_
  refine JL.storeB (@Try.sizeOf3 _) (.tmp .here) (.tmp (.there rfl (.there rfl .here))) (by rfl) (by rfl) B rfl ?_
  intro w4 hc5 hb6
  replace B := hb6; clear hb6
  refine JL.nil ?_
  refine JE.keep (L := _) .nil ?_
  refine JE.end0 @Try.results42 ?_
  exact ⟨rfl, hK.trans hc5, B⟩

set_option maxHeartbeats 4000000 in
theorem growInts_any {bb : Nat} {v1 v2 : Value} {s : BookS} (w0 : World) (B : Blk w0 bb 46 (bookCells v1 v2 s)) :
    Calls Try.prog 43 #[.pointer (some ⟨bb, 0, none⟩)] w0 fun e w' => e = .returned (.tuple #[]) ∧ Ch (One bb) w0 w' ∧ Blk w' bb 46 (bookCells v1 v2 s) := by
  have hK : Ch (One bb) w0 w0 := Ch.refl w0
  refine calls @Try.func43 rfl @Try.ntmps43 rfl ?_
  show JC _ _ _ _ _ [(0, .pointer (some ⟨bb, 0, none⟩))] _
  refine JC.seq ?_
  refine JC.region ?_
  refine JL.val rfl (Run.move (.tmp .here)) ?_
  refine JL.val rfl (Run.nilPtr (.tmp .here)) ?_
  refine JL.val rfl (Run.fieldAddr (ft := 30) (foff := 9) (off := 9) @Try.underlying46 (by rfl) (@Try.sizeOf30 _) rfl rfl (.tmp .here)) ?_
  refine JL.val rfl (Run.loadB (@Try.isAgg30 _) (.tmp .here) B (by rfl)) ?_
  refine JL.val rfl (Run.len @Try.underlying30 (.tmp .here)) ?_
  refine JL.val rfl (Run.assign (.tmp .here)) ?_
  refine JL.nil ?_
  refine JE.seq ?_
  refine JC.seq ?_
  refine JC.seq ?_
  refine JC.region ?_
  refine JL.val rfl (Run.move (.tmp (.there rfl (.there rfl (.there rfl (.there rfl (.there rfl (.there rfl .here)))))))) ?_
  refine JL.val rfl (Run.nilPtr (.tmp .here)) ?_
  refine JL.val rfl (Run.fieldAddr (ft := 3) (foff := 11) (off := 11) @Try.underlying46 (by rfl) (@Try.sizeOf3 _) rfl rfl (.tmp .here)) ?_
  refine JL.val rfl (Run.loadB (@Try.isAgg3 _) (.tmp .here) B (by rfl)) ?_
  refine JL.val rfl (Run.assign (.tmp .here)) ?_
  refine JL.nil ?_
  refine JE.keep (L := _) (.cons .here (.cons (.there rfl (.there rfl (.there rfl (.there rfl (.there rfl .here))))) (.cons (.there rfl (.there rfl (.there rfl (.there rfl (.there rfl (.there rfl (.there rfl (.there rfl (.there rfl (.there rfl (.there rfl .here))))))))))) .nil))) ?_
  refine JE.seq ?_
  refine JC.block ?_
  refine JC.loop (α := Nat) (fun z => [(3, .int .i64 0), (2, .int .i64 0), (0, .pointer (some ⟨bb, 0, none⟩))]) (fun z w => Blk w bb 46 (bookCells v1 v2 s) ∧ Ch (One bb) w0 w) (fun z => 0) 0 ⟨B, hK⟩ (.conse .here (rfl) (.conse (.there rfl .here) (rfl) (.cons (.there rfl (.there rfl .here)) .nil))) ?_
  rintro z w1 m2 ⟨B, hK⟩ hmu3
  show JC _ _ _ _ _ [(3, .int .i64 0), (2, .int .i64 0), (0, .pointer (some ⟨bb, 0, none⟩))] _
  refine JC.seq ?_
  refine JC.seq ?_
  refine JC.region ?_
  refine JL.val rfl (Run.move (.tmp .here)) ?_
  refine JL.val rfl (Run.move (.tmp (.there rfl (.there rfl .here)))) ?_
  refine JL.val rfl (Run.lss (.tmp (.there rfl .here)) (.tmp .here)) ?_
  refine JL.nil ?_
  refine JE.seq ?_
  refine JC.condF (.tmp .here) (by decide) ?_
  refine JC.exit ?_
  refine JE.exit_seq ?_
  refine JE.exit_seq ?_
  refine JE.exit_here ?_
  refine JE.seq ?_
  refine JC.region ?_
  refine JL.val rfl (Run.move (.tmp (.there rfl (.there rfl (.there rfl (.there rfl (.there rfl .here))))))) ?_
  refine JL.val rfl (Run.move (.tmp (.there rfl (.there rfl (.there rfl (.there rfl (.there rfl (.there rfl .here)))))))) ?_
  refine JL.val rfl (Run.nilPtr (.tmp .here)) ?_
  refine JL.val rfl (Run.fieldAddr (ft := 30) (foff := 9) (off := 9) @Try.underlying46 (by rfl) (@Try.sizeOf30 _) rfl rfl (.tmp .here)) ?_
  refine JL.val rfl (Run.loadB (@Try.isAgg30 _) (.tmp .here) B (by rfl)) ?_
  refine JL.val rfl (Run.len @Try.underlying30 (.tmp .here)) ?_
  refine JL.val rfl (Run.nilPtr (.tmp (.there rfl (.there rfl (.there rfl (.there rfl (.there rfl .here))))))) ?_
  refine JL.val rfl (Run.fieldAddr (ft := 3) (foff := 11) (off := 11) @Try.underlying46 (by rfl) (@Try.sizeOf3 _) rfl rfl (.tmp .here)) ?_
  refine JL.storeB (@Try.sizeOf3 _) (.tmp .here) (.tmp (.there rfl (.there rfl .here))) (by rfl) (by rfl) B rfl ?_
  intro w4 hc5 hb6
  replace B := hb6; clear hb6
  refine JL.nil ?_
  refine JE.keep (L := _) .nil ?_
  refine JE.end0 @Try.results43 ?_
  exact ⟨rfl, hK.trans hc5, B⟩

set_option maxHeartbeats 4000000 in
theorem growWords_any {bb : Nat} {v1 v2 : Value} {s : BookS} (w0 : World) (B : Blk w0 bb 46 (bookCells v1 v2 s)) :
    Calls Try.prog 44 #[.pointer (some ⟨bb, 0, none⟩)] w0 fun e w' => e = .returned (.tuple #[]) ∧ Ch (One bb) w0 w' ∧ Blk w' bb 46 (bookCells v1 v2 s) := by
  have hK : Ch (One bb) w0 w0 := Ch.refl w0
  refine calls @Try.func44 rfl @Try.ntmps44 rfl ?_
  show JC _ _ _ _ _ [(0, .pointer (some ⟨bb, 0, none⟩))] _
  refine JC.seq ?_
  refine JC.region ?_
  refine JL.val rfl (Run.move (.tmp .here)) ?_
  refine JL.val rfl (Run.nilPtr (.tmp .here)) ?_
  refine JL.val rfl (Run.fieldAddr (ft := 31) (foff := 12) (off := 12) @Try.underlying46 (by rfl) (@Try.sizeOf31 _) rfl rfl (.tmp .here)) ?_
  refine JL.val rfl (Run.loadB (@Try.isAgg31 _) (.tmp .here) B (by rfl)) ?_
  refine JL.val rfl (Run.len @Try.underlying31 (.tmp .here)) ?_
  refine JL.val rfl (Run.assign (.tmp .here)) ?_
  refine JL.nil ?_
  refine JE.seq ?_
  refine JC.seq ?_
  refine JC.seq ?_
  refine JC.region ?_
  refine JL.val rfl (Run.move (.tmp (.there rfl (.there rfl (.there rfl (.there rfl (.there rfl (.there rfl .here)))))))) ?_
  refine JL.val rfl (Run.nilPtr (.tmp .here)) ?_
  refine JL.val rfl (Run.fieldAddr (ft := 3) (foff := 14) (off := 14) @Try.underlying46 (by rfl) (@Try.sizeOf3 _) rfl rfl (.tmp .here)) ?_
  refine JL.val rfl (Run.loadB (@Try.isAgg3 _) (.tmp .here) B (by rfl)) ?_
  refine JL.val rfl (Run.assign (.tmp .here)) ?_
  refine JL.nil ?_
  refine JE.keep (L := _) (.cons .here (.cons (.there rfl (.there rfl (.there rfl (.there rfl (.there rfl .here))))) (.cons (.there rfl (.there rfl (.there rfl (.there rfl (.there rfl (.there rfl (.there rfl (.there rfl (.there rfl (.there rfl (.there rfl .here))))))))))) .nil))) ?_
  refine JE.seq ?_
  refine JC.block ?_
  refine JC.loop (α := Nat) (fun z => [(3, .int .i64 0), (2, .int .i64 0), (0, .pointer (some ⟨bb, 0, none⟩))]) (fun z w => Blk w bb 46 (bookCells v1 v2 s) ∧ Ch (One bb) w0 w) (fun z => 0) 0 ⟨B, hK⟩ (.conse .here (rfl) (.conse (.there rfl .here) (rfl) (.cons (.there rfl (.there rfl .here)) .nil))) ?_
  rintro z w1 m2 ⟨B, hK⟩ hmu3
  show JC _ _ _ _ _ [(3, .int .i64 0), (2, .int .i64 0), (0, .pointer (some ⟨bb, 0, none⟩))] _
  refine JC.seq ?_
  refine JC.seq ?_
  refine JC.region ?_
  refine JL.val rfl (Run.move (.tmp .here)) ?_
  refine JL.val rfl (Run.move (.tmp (.there rfl (.there rfl .here)))) ?_
  refine JL.val rfl (Run.lss (.tmp (.there rfl .here)) (.tmp .here)) ?_
  refine JL.nil ?_
  refine JE.seq ?_
  refine JC.condF (.tmp .here) (by decide) ?_
  refine JC.exit ?_
  refine JE.exit_seq ?_
  refine JE.exit_seq ?_
  refine JE.exit_here ?_
  refine JE.seq ?_
  refine JC.region ?_
  refine JL.val rfl (Run.move (.tmp (.there rfl (.there rfl (.there rfl (.there rfl (.there rfl .here))))))) ?_
  refine JL.val rfl (Run.move (.tmp (.there rfl (.there rfl (.there rfl (.there rfl (.there rfl (.there rfl .here)))))))) ?_
  refine JL.val rfl (Run.nilPtr (.tmp .here)) ?_
  refine JL.val rfl (Run.fieldAddr (ft := 31) (foff := 12) (off := 12) @Try.underlying46 (by rfl) (@Try.sizeOf31 _) rfl rfl (.tmp .here)) ?_
  refine JL.val rfl (Run.loadB (@Try.isAgg31 _) (.tmp .here) B (by rfl)) ?_
  refine JL.val rfl (Run.len @Try.underlying31 (.tmp .here)) ?_
  refine JL.val rfl (Run.nilPtr (.tmp (.there rfl (.there rfl (.there rfl (.there rfl (.there rfl .here))))))) ?_
  refine JL.val rfl (Run.fieldAddr (ft := 3) (foff := 14) (off := 14) @Try.underlying46 (by rfl) (@Try.sizeOf3 _) rfl rfl (.tmp .here)) ?_
  refine JL.storeB (@Try.sizeOf3 _) (.tmp .here) (.tmp (.there rfl (.there rfl .here))) (by rfl) (by rfl) B rfl ?_
  intro w4 hc5 hb6
  replace B := hb6; clear hb6
  refine JL.nil ?_
  refine JE.keep (L := _) .nil ?_
  refine JE.end0 @Try.results44 ?_
  exact ⟨rfl, hK.trans hc5, B⟩

set_option maxHeartbeats 4000000 in
theorem growFloats_any {bb : Nat} {v1 v2 : Value} {s : BookS} (w0 : World) (B : Blk w0 bb 46 (bookCells v1 v2 s)) :
    Calls Try.prog 45 #[.pointer (some ⟨bb, 0, none⟩)] w0 fun e w' => e = .returned (.tuple #[]) ∧ Ch (One bb) w0 w' ∧ Blk w' bb 46 (bookCells v1 v2 s) := by
  have hK : Ch (One bb) w0 w0 := Ch.refl w0
  refine calls @Try.func45 rfl @Try.ntmps45 rfl ?_
  show JC _ _ _ _ _ [(0, .pointer (some ⟨bb, 0, none⟩))] _
  refine JC.seq ?_
  refine JC.region ?_
  refine JL.val rfl (Run.move (.tmp .here)) ?_
  refine JL.val rfl (Run.nilPtr (.tmp .here)) ?_
  refine JL.val rfl (Run.fieldAddr (ft := 32) (foff := 15) (off := 15) @Try.underlying46 (by rfl) (@Try.sizeOf32 _) rfl rfl (.tmp .here)) ?_
  refine JL.val rfl (Run.loadB (@Try.isAgg32 _) (.tmp .here) B (by rfl)) ?_
  refine JL.val rfl (Run.len @Try.underlying32 (.tmp .here)) ?_
  refine JL.val rfl (Run.assign (.tmp .here)) ?_
  refine JL.nil ?_
  refine JE.seq ?_
  refine JC.seq ?_
  refine JC.seq ?_
  refine JC.region ?_
  refine JL.val rfl (Run.move (.tmp (.there rfl (.there rfl (.there rfl (.there rfl (.there rfl (.there rfl .here)))))))) ?_
  refine JL.val rfl (Run.nilPtr (.tmp .here)) ?_
  refine JL.val rfl (Run.fieldAddr (ft := 3) (foff := 17) (off := 17) @Try.underlying46 (by rfl) (@Try.sizeOf3 _) rfl rfl (.tmp .here)) ?_
  refine JL.val rfl (Run.loadB (@Try.isAgg3 _) (.tmp .here) B (by rfl)) ?_
  refine JL.val rfl (Run.assign (.tmp .here)) ?_
  refine JL.nil ?_
  refine JE.keep (L := _) (.cons .here (.cons (.there rfl (.there rfl (.there rfl (.there rfl (.there rfl .here))))) (.cons (.there rfl (.there rfl (.there rfl (.there rfl (.there rfl (.there rfl (.there rfl (.there rfl (.there rfl (.there rfl (.there rfl .here))))))))))) .nil))) ?_
  refine JE.seq ?_
  refine JC.block ?_
  refine JC.loop (α := Nat) (fun z => [(3, .int .i64 0), (2, .int .i64 0), (0, .pointer (some ⟨bb, 0, none⟩))]) (fun z w => Blk w bb 46 (bookCells v1 v2 s) ∧ Ch (One bb) w0 w) (fun z => 0) 0 ⟨B, hK⟩ (.conse .here (rfl) (.conse (.there rfl .here) (rfl) (.cons (.there rfl (.there rfl .here)) .nil))) ?_
  rintro z w1 m2 ⟨B, hK⟩ hmu3
  show JC _ _ _ _ _ [(3, .int .i64 0), (2, .int .i64 0), (0, .pointer (some ⟨bb, 0, none⟩))] _
  refine JC.seq ?_
  refine JC.seq ?_
  refine JC.region ?_
  refine JL.val rfl (Run.move (.tmp .here)) ?_
  refine JL.val rfl (Run.move (.tmp (.there rfl (.there rfl .here)))) ?_
  refine JL.val rfl (Run.lss (.tmp (.there rfl .here)) (.tmp .here)) ?_
  refine JL.nil ?_
  refine JE.seq ?_
  refine JC.condF (.tmp .here) (by decide) ?_
  refine JC.exit ?_
  refine JE.exit_seq ?_
  refine JE.exit_seq ?_
  refine JE.exit_here ?_
  refine JE.seq ?_
  refine JC.region ?_
  refine JL.val rfl (Run.move (.tmp (.there rfl (.there rfl (.there rfl (.there rfl (.there rfl .here))))))) ?_
  refine JL.val rfl (Run.move (.tmp (.there rfl (.there rfl (.there rfl (.there rfl (.there rfl (.there rfl .here)))))))) ?_
  refine JL.val rfl (Run.nilPtr (.tmp .here)) ?_
  refine JL.val rfl (Run.fieldAddr (ft := 32) (foff := 15) (off := 15) @Try.underlying46 (by rfl) (@Try.sizeOf32 _) rfl rfl (.tmp .here)) ?_
  refine JL.val rfl (Run.loadB (@Try.isAgg32 _) (.tmp .here) B (by rfl)) ?_
  refine JL.val rfl (Run.len @Try.underlying32 (.tmp .here)) ?_
  refine JL.val rfl (Run.nilPtr (.tmp (.there rfl (.there rfl (.there rfl (.there rfl (.there rfl .here))))))) ?_
  refine JL.val rfl (Run.fieldAddr (ft := 3) (foff := 17) (off := 17) @Try.underlying46 (by rfl) (@Try.sizeOf3 _) rfl rfl (.tmp .here)) ?_
  refine JL.storeB (@Try.sizeOf3 _) (.tmp .here) (.tmp (.there rfl (.there rfl .here))) (by rfl) (by rfl) B rfl ?_
  intro w4 hc5 hb6
  replace B := hb6; clear hb6
  refine JL.nil ?_
  refine JE.keep (L := _) .nil ?_
  refine JE.end0 @Try.results45 ?_
  exact ⟨rfl, hK.trans hc5, B⟩

set_option maxHeartbeats 4000000 in
theorem growLinks_any {bb : Nat} {v1 v2 : Value} {s : BookS} (w0 : World) (B : Blk w0 bb 46 (bookCells v1 v2 s)) :
    Calls Try.prog 46 #[.pointer (some ⟨bb, 0, none⟩)] w0 fun e w' => e = .returned (.tuple #[]) ∧ Ch (One bb) w0 w' ∧ Blk w' bb 46 (bookCells v1 v2 s) := by
  have hK : Ch (One bb) w0 w0 := Ch.refl w0
  refine calls @Try.func46 rfl @Try.ntmps46 rfl ?_
  show JC _ _ _ _ _ [(0, .pointer (some ⟨bb, 0, none⟩))] _
  refine JC.seq ?_
  refine JC.region ?_
  refine JL.val rfl (Run.move (.tmp .here)) ?_
  refine JL.val rfl (Run.nilPtr (.tmp .here)) ?_
  refine JL.val rfl (Run.fieldAddr (ft := 33) (foff := 18) (off := 18) @Try.underlying46 (by rfl) (@Try.sizeOf33 _) rfl rfl (.tmp .here)) ?_
  refine JL.val rfl (Run.loadB (@Try.isAgg33 _) (.tmp .here) B (by rfl)) ?_
  refine JL.val rfl (Run.len @Try.underlying33 (.tmp .here)) ?_
  refine JL.val rfl (Run.assign (.tmp .here)) ?_
  refine JL.nil ?_
  refine JE.seq ?_
  refine JC.seq ?_
  refine JC.seq ?_
  refine JC.region ?_
  refine JL.val rfl (Run.move (.tmp (.there rfl (.there rfl (.there rfl (.there rfl (.there rfl (.there rfl .here)))))))) ?_
  refine JL.val rfl (Run.nilPtr (.tmp .here)) ?_
  refine JL.val rfl (Run.fieldAddr (ft := 3) (foff := 20) (off := 20) @Try.underlying46 (by rfl) (@Try.sizeOf3 _) rfl rfl (.tmp .here)) ?_
  refine JL.val rfl (Run.loadB (@Try.isAgg3 _) (.tmp .here) B (by rfl)) ?_
  refine JL.val rfl (Run.assign (.tmp .here)) ?_
  refine JL.nil ?_
  refine JE.keep (L := _) (.cons .here (.cons (.there rfl (.there rfl (.there rfl (.there rfl (.there rfl .here))))) (.cons (.there rfl (.there rfl (.there rfl (.there rfl (.there rfl (.there rfl (.there rfl (.there rfl (.there rfl (.there rfl (.there rfl .here))))))))))) .nil))) ?_
  refine JE.seq ?_
  refine JC.block ?_
  refine JC.loop (α := Nat) (fun z => [(3, .int .i64 0), (2, .int .i64 0), (0, .pointer (some ⟨bb, 0, none⟩))]) (fun z w => Blk w bb 46 (bookCells v1 v2 s) ∧ Ch (One bb) w0 w) (fun z => 0) 0 ⟨B, hK⟩ (.conse .here (rfl) (.conse (.there rfl .here) (rfl) (.cons (.there rfl (.there rfl .here)) .nil))) ?_
  rintro z w1 m2 ⟨B, hK⟩ hmu3
  show JC _ _ _ _ _ [(3, .int .i64 0), (2, .int .i64 0), (0, .pointer (some ⟨bb, 0, none⟩))] _
  refine JC.seq ?_
  refine JC.seq ?_
  refine JC.region ?_
  refine JL.val rfl (Run.move (.tmp .here)) ?_
  refine JL.val rfl (Run.move (.tmp (.there rfl (.there rfl .here)))) ?_
  refine JL.val rfl (Run.lss (.tmp (.there rfl .here)) (.tmp .here)) ?_
  refine JL.nil ?_
  refine JE.seq ?_
  refine JC.condF (.tmp .here) (by decide) ?_
  refine JC.exit ?_
  refine JE.exit_seq ?_
  refine JE.exit_seq ?_
  refine JE.exit_here ?_
  refine JE.seq ?_
  refine JC.region ?_
  refine JL.val rfl (Run.move (.tmp (.there rfl (.there rfl (.there rfl (.there rfl (.there rfl .here))))))) ?_
  refine JL.val rfl (Run.move (.tmp (.there rfl (.there rfl (.there rfl (.there rfl (.there rfl (.there rfl .here)))))))) ?_
  refine JL.val rfl (Run.nilPtr (.tmp .here)) ?_
  refine JL.val rfl (Run.fieldAddr (ft := 33) (foff := 18) (off := 18) @Try.underlying46 (by rfl) (@Try.sizeOf33 _) rfl rfl (.tmp .here)) ?_
  refine JL.val rfl (Run.loadB (@Try.isAgg33 _) (.tmp .here) B (by rfl)) ?_
  refine JL.val rfl (Run.len @Try.underlying33 (.tmp .here)) ?_
  refine JL.val rfl (Run.nilPtr (.tmp (.there rfl (.there rfl (.there rfl (.there rfl (.there rfl .here))))))) ?_
  refine JL.val rfl (Run.fieldAddr (ft := 3) (foff := 20) (off := 20) @Try.underlying46 (by rfl) (@Try.sizeOf3 _) rfl rfl (.tmp .here)) ?_
  refine JL.storeB (@Try.sizeOf3 _) (.tmp .here) (.tmp (.there rfl (.there rfl .here))) (by rfl) (by rfl) B rfl ?_
  intro w4 hc5 hb6
  replace B := hb6; clear hb6
  refine JL.nil ?_
  refine JE.keep (L := _) .nil ?_
  refine JE.end0 @Try.results46 ?_
  exact ⟨rfl, hK.trans hc5, B⟩

set_option maxHeartbeats 4000000 in
theorem growNotes_any {bb : Nat} {v1 v2 : Value} {s : BookS} (w0 : World) (B : Blk w0 bb 46 (bookCells v1 v2 s)) :
    Calls Try.prog 47 #[.pointer (some ⟨bb, 0, none⟩)] w0 fun e w' => e = .returned (.tuple #[]) ∧ Ch (One bb) w0 w' ∧ Blk w' bb 46 (bookCells v1 v2 s) := by
  have hK : Ch (One bb) w0 w0 := Ch.refl w0
  refine calls @Try.func47 rfl @Try.ntmps47 rfl ?_
  show JC _ _ _ _ _ [(0, .pointer (some ⟨bb, 0, none⟩))] _
  refine JC.seq ?_
  refine JC.region ?_
  refine JL.val rfl (Run.move (.tmp .here)) ?_
  refine JL.val rfl (Run.nilPtr (.tmp .here)) ?_
  refine JL.val rfl (Run.fieldAddr (ft := 34) (foff := 21) (off := 21) @Try.underlying46 (by rfl) (@Try.sizeOf34 _) rfl rfl (.tmp .here)) ?_
  refine JL.val rfl (Run.loadB (@Try.isAgg34 _) (.tmp .here) B (by rfl)) ?_
  refine JL.val rfl (Run.len @Try.underlying34 (.tmp .here)) ?_
  refine JL.val rfl (Run.assign (.tmp .here)) ?_
  refine JL.nil ?_
  refine JE.seq ?_
  refine JC.seq ?_
  refine JC.seq ?_
  refine JC.region ?_
  refine JL.val rfl (Run.move (.tmp (.there rfl (.there rfl (.there rfl (.there rfl (.there rfl (.there rfl .here)))))))) ?_
  refine JL.val rfl (Run.nilPtr (.tmp .here)) ?_
  refine JL.val rfl (Run.fieldAddr (ft := 3) (foff := 23) (off := 23) @Try.underlying46 (by rfl) (@Try.sizeOf3 _) rfl rfl (.tmp .here)) ?_
  refine JL.val rfl (Run.loadB (@Try.isAgg3 _) (.tmp .here) B (by rfl)) ?_
  refine JL.val rfl (Run.assign (.tmp .here)) ?_
  refine JL.nil ?_
  refine JE.keep (L := _) (.cons .here (.cons (.there rfl (.there rfl (.there rfl (.there rfl (.there rfl .here))))) (.cons (.there rfl (.there rfl (.there rfl (.there rfl (.there rfl (.there rfl (.there rfl (.there rfl (.there rfl (.there rfl (.there rfl .here))))))))))) .nil))) ?_
  refine JE.seq ?_
  refine JC.block ?_
  refine JC.loop (α := Nat) (fun z => [(3, .int .i64 0), (2, .int .i64 0), (0, .pointer (some ⟨bb, 0, none⟩))]) (fun z w => Blk w bb 46 (bookCells v1 v2 s) ∧ Ch (One bb) w0 w) (fun z => 0) 0 ⟨B, hK⟩ (.conse .here (rfl) (.conse (.there rfl .here) (rfl) (.cons (.there rfl (.there rfl .here)) .nil))) ?_
  rintro z w1 m2 ⟨B, hK⟩ hmu3
  show JC _ _ _ _ _ [(3, .int .i64 0), (2, .int .i64 0), (0, .pointer (some ⟨bb, 0, none⟩))] _
  refine JC.seq ?_
  refine JC.seq ?_
  refine JC.region ?_
  refine JL.val rfl (Run.move (.tmp .here)) ?_
  refine JL.val rfl (Run.move (.tmp (.there rfl (.there rfl .here)))) ?_
  refine JL.val rfl (Run.lss (.tmp (.there rfl .here)) (.tmp .here)) ?_
  refine JL.nil ?_
  refine JE.seq ?_
  refine JC.condF (.tmp .here) (by decide) ?_
  refine JC.exit ?_
  refine JE.exit_seq ?_
  refine JE.exit_seq ?_
  refine JE.exit_here ?_
  refine JE.seq ?_
  refine JC.region ?_
  refine JL.val rfl (Run.move (.tmp (.there rfl (.there rfl (.there rfl (.there rfl (.there rfl .here))))))) ?_
  refine JL.val rfl (Run.move (.tmp (.there rfl (.there rfl (.there rfl (.there rfl (.there rfl (.there rfl .here)))))))) ?_
  refine JL.val rfl (Run.nilPtr (.tmp .here)) ?_
  refine JL.val rfl (Run.fieldAddr (ft := 34) (foff := 21) (off := 21) @Try.underlying46 (by rfl) (@Try.sizeOf34 _) rfl rfl (.tmp .here)) ?_
  refine JL.val rfl (Run.loadB (@Try.isAgg34 _) (.tmp .here) B (by rfl)) ?_
  refine JL.val rfl (Run.len @Try.underlying34 (.tmp .here)) ?_
  refine JL.val rfl (Run.nilPtr (.tmp (.there rfl (.there rfl (.there rfl (.there rfl (.there rfl .here))))))) ?_
  refine JL.val rfl (Run.fieldAddr (ft := 3) (foff := 23) (off := 23) @Try.underlying46 (by rfl) (@Try.sizeOf3 _) rfl rfl (.tmp .here)) ?_
  refine JL.storeB (@Try.sizeOf3 _) (.tmp .here) (.tmp (.there rfl (.there rfl .here))) (by rfl) (by rfl) B rfl ?_
  intro w4 hc5 hb6
  replace B := hb6; clear hb6
  refine JL.nil ?_
  refine JE.keep (L := _) .nil ?_
  refine JE.end0 @Try.results47 ?_
  exact ⟨rfl, hK.trans hc5, B⟩

set_option maxHeartbeats 4000000 in
theorem growCases_any {bb : Nat} {v1 v2 : Value} {s : BookS} (w0 : World) (B : Blk w0 bb 46 (bookCells v1 v2 s)) :
    Calls Try.prog 48 #[.pointer (some ⟨bb, 0, none⟩)] w0 fun e w' => e = .returned (.tuple #[]) ∧ Ch (One bb) w0 w' ∧ Blk w' bb 46 (bookCells v1 v2 s) := by
  have hK : Ch (One bb) w0 w0 := Ch.refl w0
  refine calls @Try.func48 rfl @Try.ntmps48 rfl ?_
  show JC _ _ _ _ _ [(0, .pointer (some ⟨bb, 0, none⟩))] _
  refine JC.seq ?_
  refine JC.region ?_
  refine JL.val rfl (Run.move (.tmp .here)) ?_
  refine JL.val rfl (Run.nilPtr (.tmp .here)) ?_
  refine JL.val rfl (Run.fieldAddr (ft := 35) (foff := 24) (off := 24) @Try.underlying46 (by rfl) (@Try.sizeOf35 _) rfl rfl (.tmp .here)) ?_
  refine JL.val rfl (Run.loadB (@Try.isAgg35 _) (.tmp .here) B (by rfl)) ?_
  refine JL.val rfl (Run.len @Try.underlying35 (.tmp .here)) ?_
  refine JL.val rfl (Run.assign (.tmp .here)) ?_
  refine JL.nil ?_
  refine JE.seq ?_
  refine JC.seq ?_
  refine JC.seq ?_
  refine JC.region ?_
  refine JL.val rfl (Run.move (.tmp (.there rfl (.there rfl (.there rfl (.there rfl (.there rfl (.there rfl .here)))))))) ?_
  refine JL.val rfl (Run.nilPtr (.tmp .here)) ?_
  refine JL.val rfl (Run.fieldAddr (ft := 3) (foff := 26) (off := 26) @Try.underlying46 (by rfl) (@Try.sizeOf3 _) rfl rfl (.tmp .here)) ?_
  refine JL.val rfl (Run.loadB (@Try.isAgg3 _) (.tmp .here) B (by rfl)) ?_
  refine JL.val rfl (Run.assign (.tmp .here)) ?_
  refine JL.nil ?_
  refine JE.keep (L := _) (.cons .here (.cons (.there rfl (.there rfl (.there rfl (.there rfl (.there rfl .here))))) (.cons (.there rfl (.there rfl (.there rfl (.there rfl (.there rfl (.there rfl (.there rfl (.there rfl (.there rfl (.there rfl (.there rfl .here))))))))))) .nil))) ?_
  refine JE.seq ?_
  refine JC.block ?_
  refine JC.loop (α := Nat) (fun z => [(3, .int .i64 0), (2, .int .i64 0), (0, .pointer (some ⟨bb, 0, none⟩))]) (fun z w => Blk w bb 46 (bookCells v1 v2 s) ∧ Ch (One bb) w0 w) (fun z => 0) 0 ⟨B, hK⟩ (.conse .here (rfl) (.conse (.there rfl .here) (rfl) (.cons (.there rfl (.there rfl .here)) .nil))) ?_
  rintro z w1 m2 ⟨B, hK⟩ hmu3
  show JC _ _ _ _ _ [(3, .int .i64 0), (2, .int .i64 0), (0, .pointer (some ⟨bb, 0, none⟩))] _
  refine JC.seq ?_
  refine JC.seq ?_
  refine JC.region ?_
  refine JL.val rfl (Run.move (.tmp .here)) ?_
  refine JL.val rfl (Run.move (.tmp (.there rfl (.there rfl .here)))) ?_
  refine JL.val rfl (Run.lss (.tmp (.there rfl .here)) (.tmp .here)) ?_
  refine JL.nil ?_
  refine JE.seq ?_
  refine JC.condF (.tmp .here) (by decide) ?_
  refine JC.exit ?_
  refine JE.exit_seq ?_
  refine JE.exit_seq ?_
  refine JE.exit_here ?_
  refine JE.seq ?_
  refine JC.region ?_
  refine JL.val rfl (Run.move (.tmp (.there rfl (.there rfl (.there rfl (.there rfl (.there rfl .here))))))) ?_
  refine JL.val rfl (Run.move (.tmp (.there rfl (.there rfl (.there rfl (.there rfl (.there rfl (.there rfl .here)))))))) ?_
  refine JL.val rfl (Run.nilPtr (.tmp .here)) ?_
  refine JL.val rfl (Run.fieldAddr (ft := 35) (foff := 24) (off := 24) @Try.underlying46 (by rfl) (@Try.sizeOf35 _) rfl rfl (.tmp .here)) ?_
  refine JL.val rfl (Run.loadB (@Try.isAgg35 _) (.tmp .here) B (by rfl)) ?_
  refine JL.val rfl (Run.len @Try.underlying35 (.tmp .here)) ?_
  refine JL.val rfl (Run.nilPtr (.tmp (.there rfl (.there rfl (.there rfl (.there rfl (.there rfl .here))))))) ?_
  refine JL.val rfl (Run.fieldAddr (ft := 3) (foff := 26) (off := 26) @Try.underlying46 (by rfl) (@Try.sizeOf3 _) rfl rfl (.tmp .here)) ?_
  refine JL.storeB (@Try.sizeOf3 _) (.tmp .here) (.tmp (.there rfl (.there rfl .here))) (by rfl) (by rfl) B rfl ?_
  intro w4 hc5 hb6
  replace B := hb6; clear hb6
  refine JL.nil ?_
  refine JE.keep (L := _) .nil ?_
  refine JE.end0 @Try.results48 ?_
  exact ⟨rfl, hK.trans hc5, B⟩

set_option maxHeartbeats 4000000 in
theorem growFields_any {bb : Nat} {v1 v2 : Value} {s : BookS} (w0 : World) (B : Blk w0 bb 46 (bookCells v1 v2 s)) :
    Calls Try.prog 49 #[.pointer (some ⟨bb, 0, none⟩)] w0 fun e w' => e = .returned (.tuple #[]) ∧ Ch (One bb) w0 w' ∧ Blk w' bb 46 (bookCells v1 v2 s) := by
  have hK : Ch (One bb) w0 w0 := Ch.refl w0
  refine calls @Try.func49 rfl @Try.ntmps49 rfl ?_
  show JC _ _ _ _ _ [(0, .pointer (some ⟨bb, 0, none⟩))] _
  refine JC.seq ?_
  refine JC.region ?_
  refine JL.val rfl (Run.move (.tmp .here)) ?_
  refine JL.val rfl (Run.nilPtr (.tmp .here)) ?_
  refine JL.val rfl (Run.fieldAddr (ft := 36) (foff := 27) (off := 27) @Try.underlying46 (by rfl) (@Try.sizeOf36 _) rfl rfl (.tmp .here)) ?_
  refine JL.val rfl (Run.loadB (@Try.isAgg36 _) (.tmp .here) B (by rfl)) ?_
  refine JL.val rfl (Run.len @Try.underlying36 (.tmp .here)) ?_
  refine JL.val rfl (Run.assign (.tmp .here)) ?_
  refine JL.nil ?_
  refine JE.seq ?_
  refine JC.seq ?_
  refine JC.seq ?_
  refine JC.region ?_
  refine JL.val rfl (Run.move (.tmp (.there rfl (.there rfl (.there rfl (.there rfl (.there rfl (.there rfl .here)))))))) ?_
  refine JL.val rfl (Run.nilPtr (.tmp .here)) ?_
  refine JL.val rfl (Run.fieldAddr (ft := 3) (foff := 29) (off := 29) @Try.underlying46 (by rfl) (@Try.sizeOf3 _) rfl rfl (.tmp .here)) ?_
  refine JL.val rfl (Run.loadB (@Try.isAgg3 _) (.tmp .here) B (by rfl)) ?_
  refine JL.val rfl (Run.assign (.tmp .here)) ?_
  refine JL.nil ?_
  refine JE.keep (L := _) (.cons .here (.cons (.there rfl (.there rfl (.there rfl (.there rfl (.there rfl .here))))) (.cons (.there rfl (.there rfl (.there rfl (.there rfl (.there rfl (.there rfl (.there rfl (.there rfl (.there rfl (.there rfl (.there rfl .here))))))))))) .nil))) ?_
  refine JE.seq ?_
  refine JC.block ?_
  refine JC.loop (α := Nat) (fun z => [(3, .int .i64 0), (2, .int .i64 0), (0, .pointer (some ⟨bb, 0, none⟩))]) (fun z w => Blk w bb 46 (bookCells v1 v2 s) ∧ Ch (One bb) w0 w) (fun z => 0) 0 ⟨B, hK⟩ (.conse .here (rfl) (.conse (.there rfl .here) (rfl) (.cons (.there rfl (.there rfl .here)) .nil))) ?_
  rintro z w1 m2 ⟨B, hK⟩ hmu3
  show JC _ _ _ _ _ [(3, .int .i64 0), (2, .int .i64 0), (0, .pointer (some ⟨bb, 0, none⟩))] _
  refine JC.seq ?_
  refine JC.seq ?_
  refine JC.region ?_
  refine JL.val rfl (Run.move (.tmp .here)) ?_
  refine JL.val rfl (Run.move (.tmp (.there rfl (.there rfl .here)))) ?_
  refine JL.val rfl (Run.lss (.tmp (.there rfl .here)) (.tmp .here)) ?_
  refine JL.nil ?_
  refine JE.seq ?_
  refine JC.condF (.tmp .here) (by decide) ?_
  refine JC.exit ?_
  refine JE.exit_seq ?_
  refine JE.exit_seq ?_
  refine JE.exit_here ?_
  refine JE.seq ?_
  refine JC.region ?_
  refine JL.val rfl (Run.move (.tmp (.there rfl (.there rfl (.there rfl (.there rfl (.there rfl .here))))))) ?_
  refine JL.val rfl (Run.move (.tmp (.there rfl (.there rfl (.there rfl (.there rfl (.there rfl (.there rfl .here)))))))) ?_
  refine JL.val rfl (Run.nilPtr (.tmp .here)) ?_
  refine JL.val rfl (Run.fieldAddr (ft := 36) (foff := 27) (off := 27) @Try.underlying46 (by rfl) (@Try.sizeOf36 _) rfl rfl (.tmp .here)) ?_
  refine JL.val rfl (Run.loadB (@Try.isAgg36 _) (.tmp .here) B (by rfl)) ?_
  refine JL.val rfl (Run.len @Try.underlying36 (.tmp .here)) ?_
  refine JL.val rfl (Run.nilPtr (.tmp (.there rfl (.there rfl (.there rfl (.there rfl (.there rfl .here))))))) ?_
  refine JL.val rfl (Run.fieldAddr (ft := 3) (foff := 29) (off := 29) @Try.underlying46 (by rfl) (@Try.sizeOf3 _) rfl rfl (.tmp .here)) ?_
  refine JL.storeB (@Try.sizeOf3 _) (.tmp .here) (.tmp (.there rfl (.there rfl .here))) (by rfl) (by rfl) B rfl ?_
  intro w4 hc5 hb6
  replace B := hb6; clear hb6
  refine JL.nil ?_
  refine JE.keep (L := _) .nil ?_
  refine JE.end0 @Try.results49 ?_
  exact ⟨rfl, hK.trans hc5, B⟩

set_option maxHeartbeats 4000000 in
theorem growValues_any {bb : Nat} {v1 v2 : Value} {s : BookS} (w0 : World) (B : Blk w0 bb 46 (bookCells v1 v2 s)) :
    Calls Try.prog 50 #[.pointer (some ⟨bb, 0, none⟩)] w0 fun e w' => e = .returned (.tuple #[]) ∧ Ch (One bb) w0 w' ∧ Blk w' bb 46 (bookCells v1 v2 s) := by
  have hK : Ch (One bb) w0 w0 := Ch.refl w0
  refine calls @Try.func50 rfl @Try.ntmps50 rfl ?_
  show JC _ _ _ _ _ [(0, .pointer (some ⟨bb, 0, none⟩))] _
  refine JC.seq ?_
  refine JC.region ?_
  refine JL.val rfl (Run.move (.tmp .here)) ?_
  refine JL.val rfl (Run.nilPtr (.tmp .here)) ?_
  refine JL.val rfl (Run.fieldAddr (ft := 37) (foff := 30) (off := 30) @Try.underlying46 (by rfl) (@Try.sizeOf37 _) rfl rfl (.tmp .here)) ?_
  refine JL.val rfl (Run.loadB (@Try.isAgg37 _) (.tmp .here) B (by rfl)) ?_
  refine JL.val rfl (Run.len @Try.underlying37 (.tmp .here)) ?_
  refine JL.val rfl (Run.assign (.tmp .here)) ?_
  refine JL.nil ?_
  refine JE.seq ?_
  refine JC.seq ?_
  refine JC.seq ?_
  refine JC.region ?_
  refine JL.val rfl (Run.move (.tmp (.there rfl (.there rfl (.there rfl (.there rfl (.there rfl (.there rfl .here)))))))) ?_
  refine JL.val rfl (Run.nilPtr (.tmp .here)) ?_
  refine JL.val rfl (Run.fieldAddr (ft := 3) (foff := 32) (off := 32) @Try.underlying46 (by rfl) (@Try.sizeOf3 _) rfl rfl (.tmp .here)) ?_
  refine JL.val rfl (Run.loadB (@Try.isAgg3 _) (.tmp .here) B (by rfl)) ?_
  refine JL.val rfl (Run.assign (.tmp .here)) ?_
  refine JL.nil ?_
  refine JE.keep (L := _) (.cons .here (.cons (.there rfl (.there rfl (.there rfl (.there rfl (.there rfl .here))))) (.cons (.there rfl (.there rfl (.there rfl (.there rfl (.there rfl (.there rfl (.there rfl (.there rfl (.there rfl (.there rfl (.there rfl .here))))))))))) .nil))) ?_
  refine JE.seq ?_
  refine JC.block ?_
  refine JC.loop (α := Nat) (fun z => [(3, .int .i64 0), (2, .int .i64 0), (0, .pointer (some ⟨bb, 0, none⟩))]) (fun z w => Blk w bb 46 (bookCells v1 v2 s) ∧ Ch (One bb) w0 w) (fun z => 0) 0 ⟨B, hK⟩ (.conse .here (rfl) (.conse (.there rfl .here) (rfl) (.cons (.there rfl (.there rfl .here)) .nil))) ?_
  rintro z w1 m2 ⟨B, hK⟩ hmu3
  show JC _ _ _ _ _ [(3, .int .i64 0), (2, .int .i64 0), (0, .pointer (some ⟨bb, 0, none⟩))] _
  refine JC.seq ?_
  refine JC.seq ?_
  refine JC.region ?_
  refine JL.val rfl (Run.move (.tmp .here)) ?_
  refine JL.val rfl (Run.move (.tmp (.there rfl (.there rfl .here)))) ?_
  refine JL.val rfl (Run.lss (.tmp (.there rfl .here)) (.tmp .here)) ?_
  refine JL.nil ?_
  refine JE.seq ?_
  refine JC.condF (.tmp .here) (by decide) ?_
  refine JC.exit ?_
  refine JE.exit_seq ?_
  refine JE.exit_seq ?_
  refine JE.exit_here ?_
  refine JE.seq ?_
  refine JC.region ?_
  refine JL.val rfl (Run.move (.tmp (.there rfl (.there rfl (.there rfl (.there rfl (.there rfl .here))))))) ?_
  refine JL.val rfl (Run.move (.tmp (.there rfl (.there rfl (.there rfl (.there rfl (.there rfl (.there rfl .here)))))))) ?_
  refine JL.val rfl (Run.nilPtr (.tmp .here)) ?_
  refine JL.val rfl (Run.fieldAddr (ft := 37) (foff := 30) (off := 30) @Try.underlying46 (by rfl) (@Try.sizeOf37 _) rfl rfl (.tmp .here)) ?_
  refine JL.val rfl (Run.loadB (@Try.isAgg37 _) (.tmp .here) B (by rfl)) ?_
  refine JL.val rfl (Run.len @Try.underlying37 (.tmp .here)) ?_
  refine JL.val rfl (Run.nilPtr (.tmp (.there rfl (.there rfl (.there rfl (.there rfl (.there rfl .here))))))) ?_
  refine JL.val rfl (Run.fieldAddr (ft := 3) (foff := 32) (off := 32) @Try.underlying46 (by rfl) (@Try.sizeOf3 _) rfl rfl (.tmp .here)) ?_
  refine JL.storeB (@Try.sizeOf3 _) (.tmp .here) (.tmp (.there rfl (.there rfl .here))) (by rfl) (by rfl) B rfl ?_
  intro w4 hc5 hb6
  replace B := hb6; clear hb6
  refine JL.nil ?_
  refine JE.keep (L := _) .nil ?_
  refine JE.end0 @Try.results50 ?_
  exact ⟨rfl, hK.trans hc5, B⟩

set_option maxHeartbeats 4000000 in
theorem growEntries_any {bb : Nat} {v1 v2 : Value} {s : BookS} (w0 : World) (B : Blk w0 bb 46 (bookCells v1 v2 s)) :
    Calls Try.prog 51 #[.pointer (some ⟨bb, 0, none⟩)] w0 fun e w' => e = .returned (.tuple #[]) ∧ Ch (One bb) w0 w' ∧ Blk w' bb 46 (bookCells v1 v2 s) := by
  have hK : Ch (One bb) w0 w0 := Ch.refl w0
  refine calls @Try.func51 rfl @Try.ntmps51 rfl ?_
  show JC _ _ _ _ _ [(0, .pointer (some ⟨bb, 0, none⟩))] _
  refine JC.seq ?_
  refine JC.region ?_
  refine JL.val rfl (Run.move (.tmp .here)) ?_
  refine JL.val rfl (Run.nilPtr (.tmp .here)) ?_
  refine JL.val rfl (Run.fieldAddr (ft := 38) (foff := 33) (off := 33) @Try.underlying46 (by rfl) (@Try.sizeOf38 _) rfl rfl (.tmp .here)) ?_
  refine JL.val rfl (Run.loadB (@Try.isAgg38 _) (.tmp .here) B (by rfl)) ?_
  refine JL.val rfl (Run.len @Try.underlying38 (.tmp .here)) ?_
  refine JL.val rfl (Run.assign (.tmp .here)) ?_
  refine JL.nil ?_
  refine JE.seq ?_
  refine JC.seq ?_
  refine JC.seq ?_
  refine JC.region ?_
  refine JL.val rfl (Run.move (.tmp (.there rfl (.there rfl (.there rfl (.there rfl (.there rfl (.there rfl .here)))))))) ?_
  refine JL.val rfl (Run.nilPtr (.tmp .here)) ?_
  refine JL.val rfl (Run.fieldAddr (ft := 3) (foff := 35) (off := 35) @Try.underlying46 (by rfl) (@Try.sizeOf3 _) rfl rfl (.tmp .here)) ?_
  refine JL.val rfl (Run.loadB (@Try.isAgg3 _) (.tmp .here) B (by rfl)) ?_
  refine JL.val rfl (Run.assign (.tmp .here)) ?_
  refine JL.nil ?_
  refine JE.keep (L := _) (.cons .here (.cons (.there rfl (.there rfl (.there rfl (.there rfl (.there rfl .here))))) (.cons (.there rfl (.there rfl (.there rfl (.there rfl (.there rfl (.there rfl (.there rfl (.there rfl (.there rfl (.there rfl (.there rfl .here))))))))))) .nil))) ?_
  refine JE.seq ?_
  refine JC.block ?_
  refine JC.loop (α := Nat) (fun z => [(3, .int .i64 0), (2, .int .i64 0), (0, .pointer (some ⟨bb, 0, none⟩))]) (fun z w => Blk w bb 46 (bookCells v1 v2 s) ∧ Ch (One bb) w0 w) (fun z => 0) 0 ⟨B, hK⟩ (.conse .here (rfl) (.conse (.there rfl .here) (rfl) (.cons (.there rfl (.there rfl .here)) .nil))) ?_
  rintro z w1 m2 ⟨B, hK⟩ hmu3
  show JC _ _ _ _ _ [(3, .int .i64 0), (2, .int .i64 0), (0, .pointer (some ⟨bb, 0, none⟩))] _
  refine JC.seq ?_
  refine JC.seq ?_
  refine JC.region ?_
  refine JL.val rfl (Run.move (.tmp .here)) ?_
  refine JL.val rfl (Run.move (.tmp (.there rfl (.there rfl .here)))) ?_
  refine JL.val rfl (Run.lss (.tmp (.there rfl .here)) (.tmp .here)) ?_
  refine JL.nil ?_
  refine JE.seq ?_
  refine JC.condF (.tmp .here) (by decide) ?_
  refine JC.exit ?_
  refine JE.exit_seq ?_
  refine JE.exit_seq ?_
  refine JE.exit_here ?_
  refine JE.seq ?_
  refine JC.region ?_
  refine JL.val rfl (Run.move (.tmp (.there rfl (.there rfl (.there rfl (.there rfl (.there rfl .here))))))) ?_
  refine JL.val rfl (Run.move (.tmp (.there rfl (.there rfl (.there rfl (.there rfl (.there rfl (.there rfl .here)))))))) ?_
  refine JL.val rfl (Run.nilPtr (.tmp .here)) ?_
  refine JL.val rfl (Run.fieldAddr (ft := 38) (foff := 33) (off := 33) @Try.underlying46 (by rfl) (@Try.sizeOf38 _) rfl rfl (.tmp .here)) ?_
  refine JL.val rfl (Run.loadB (@Try.isAgg38 _) (.tmp .here) B (by rfl)) ?_
  refine JL.val rfl (Run.len @Try.underlying38 (.tmp .here)) ?_
  refine JL.val rfl (Run.nilPtr (.tmp (.there rfl (.there rfl (.there rfl (.there rfl (.there rfl .here))))))) ?_
  refine JL.val rfl (Run.fieldAddr (ft := 3) (foff := 35) (off := 35) @Try.underlying46 (by rfl) (@Try.sizeOf3 _) rfl rfl (.tmp .here)) ?_
  refine JL.storeB (@Try.sizeOf3 _) (.tmp .here) (.tmp (.there rfl (.there rfl .here))) (by rfl) (by rfl) B rfl ?_
  intro w4 hc5 hb6
  replace B := hb6; clear hb6
  refine JL.nil ?_
  refine JE.keep (L := _) .nil ?_
  refine JE.end0 @Try.results51 ?_
  exact ⟨rfl, hK.trans hc5, B⟩

set_option maxHeartbeats 4000000 in
theorem growChanges_any {bb : Nat} {v1 v2 : Value} {s : BookS} (w0 : World) (B : Blk w0 bb 46 (bookCells v1 v2 s)) :
    Calls Try.prog 52 #[.pointer (some ⟨bb, 0, none⟩)] w0 fun e w' => e = .returned (.tuple #[]) ∧ Ch (One bb) w0 w' ∧ Blk w' bb 46 (bookCells v1 v2 s) := by
  have hK : Ch (One bb) w0 w0 := Ch.refl w0
  refine calls @Try.func52 rfl @Try.ntmps52 rfl ?_
  show JC _ _ _ _ _ [(0, .pointer (some ⟨bb, 0, none⟩))] _
  refine JC.seq ?_
  refine JC.region ?_
  refine JL.val rfl (Run.move (.tmp .here)) ?_
  refine JL.val rfl (Run.nilPtr (.tmp .here)) ?_
  refine JL.val rfl (Run.fieldAddr (ft := 39) (foff := 36) (off := 36) @Try.underlying46 (by rfl) (@Try.sizeOf39 _) rfl rfl (.tmp .here)) ?_
  refine JL.val rfl (Run.loadB (@Try.isAgg39 _) (.tmp .here) B (by rfl)) ?_
  refine JL.val rfl (Run.len @Try.underlying39 (.tmp .here)) ?_
  refine JL.val rfl (Run.assign (.tmp .here)) ?_
  refine JL.nil ?_
  refine JE.seq ?_
  refine JC.seq ?_
  refine JC.seq ?_
  refine JC.region ?_
  refine JL.val rfl (Run.move (.tmp (.there rfl (.there rfl (.there rfl (.there rfl (.there rfl (.there rfl .here)))))))) ?_
  refine JL.val rfl (Run.nilPtr (.tmp .here)) ?_
  refine JL.val rfl (Run.fieldAddr (ft := 3) (foff := 38) (off := 38) @Try.underlying46 (by rfl) (@Try.sizeOf3 _) rfl rfl (.tmp .here)) ?_
  refine JL.val rfl (Run.loadB (@Try.isAgg3 _) (.tmp .here) B (by rfl)) ?_
  refine JL.val rfl (Run.assign (.tmp .here)) ?_
  refine JL.nil ?_
  refine JE.keep (L := _) (.cons .here (.cons (.there rfl (.there rfl (.there rfl (.there rfl (.there rfl .here))))) (.cons (.there rfl (.there rfl (.there rfl (.there rfl (.there rfl (.there rfl (.there rfl (.there rfl (.there rfl (.there rfl (.there rfl .here))))))))))) .nil))) ?_
  refine JE.seq ?_
  refine JC.block ?_
  refine JC.loop (α := Nat) (fun z => [(3, .int .i64 0), (2, .int .i64 0), (0, .pointer (some ⟨bb, 0, none⟩))]) (fun z w => Blk w bb 46 (bookCells v1 v2 s) ∧ Ch (One bb) w0 w) (fun z => 0) 0 ⟨B, hK⟩ (.conse .here (rfl) (.conse (.there rfl .here) (rfl) (.cons (.there rfl (.there rfl .here)) .nil))) ?_
  rintro z w1 m2 ⟨B, hK⟩ hmu3
  show JC _ _ _ _ _ [(3, .int .i64 0), (2, .int .i64 0), (0, .pointer (some ⟨bb, 0, none⟩))] _
  refine JC.seq ?_
  refine JC.seq ?_
  refine JC.region ?_
  refine JL.val rfl (Run.move (.tmp .here)) ?_
  refine JL.val rfl (Run.move (.tmp (.there rfl (.there rfl .here)))) ?_
  refine JL.val rfl (Run.lss (.tmp (.there rfl .here)) (.tmp .here)) ?_
  refine JL.nil ?_
  refine JE.seq ?_
  refine JC.condF (.tmp .here) (by decide) ?_
  refine JC.exit ?_
  refine JE.exit_seq ?_
  refine JE.exit_seq ?_
  refine JE.exit_here ?_
  refine JE.seq ?_
  refine JC.region ?_
  refine JL.val rfl (Run.move (.tmp (.there rfl (.there rfl (.there rfl (.there rfl (.there rfl .here))))))) ?_
  refine JL.val rfl (Run.move (.tmp (.there rfl (.there rfl (.there rfl (.there rfl (.there rfl (.there rfl .here)))))))) ?_
  refine JL.val rfl (Run.nilPtr (.tmp .here)) ?_
  refine JL.val rfl (Run.fieldAddr (ft := 39) (foff := 36) (off := 36) @Try.underlying46 (by rfl) (@Try.sizeOf39 _) rfl rfl (.tmp .here)) ?_
  refine JL.val rfl (Run.loadB (@Try.isAgg39 _) (.tmp .here) B (by rfl)) ?_
  refine JL.val rfl (Run.len @Try.underlying39 (.tmp .here)) ?_
  refine JL.val rfl (Run.nilPtr (.tmp (.there rfl (.there rfl (.there rfl (.there rfl (.there rfl .here))))))) ?_
  refine JL.val rfl (Run.fieldAddr (ft := 3) (foff := 38) (off := 38) @Try.underlying46 (by rfl) (@Try.sizeOf3 _) rfl rfl (.tmp .here)) ?_
  refine JL.storeB (@Try.sizeOf3 _) (.tmp .here) (.tmp (.there rfl (.there rfl .here))) (by rfl) (by rfl) B rfl ?_
  intro w4 hc5 hb6
  replace B := hb6; clear hb6
  refine JL.nil ?_
  refine JE.keep (L := _) .nil ?_
  refine JE.end0 @Try.results52 ?_
  exact ⟨rfl, hK.trans hc5, B⟩

set_option maxHeartbeats 4000000 in
theorem growBlocks_any {bb : Nat} {v1 v2 : Value} {s : BookS} (w0 : World) (B : Blk w0 bb 46 (bookCells v1 v2 s)) :
    Calls Try.prog 53 #[.pointer (some ⟨bb, 0, none⟩)] w0 fun e w' => e = .returned (.tuple #[]) ∧ Ch (One bb) w0 w' ∧ Blk w' bb 46 (bookCells v1 v2 s) := by
  have hK : Ch (One bb) w0 w0 := Ch.refl w0
  refine calls @Try.func53 rfl @Try.ntmps53 rfl ?_
  show JC _ _ _ _ _ [(0, .pointer (some ⟨bb, 0, none⟩))] _
  refine JC.seq ?_
  refine JC.region ?_
  refine JL.val rfl (Run.move (.tmp .here)) ?_
  refine JL.val rfl (Run.nilPtr (.tmp .here)) ?_
  refine JL.val rfl (Run.fieldAddr (ft := 40) (foff := 39) (off := 39) @Try.underlying46 (by rfl) (@Try.sizeOf40 _) rfl rfl (.tmp .here)) ?_
  refine JL.val rfl (Run.loadB (@Try.isAgg40 _) (.tmp .here) B (by rfl)) ?_
  refine JL.val rfl (Run.len @Try.underlying40 (.tmp .here)) ?_
  refine JL.val rfl (Run.assign (.tmp .here)) ?_
  refine JL.nil ?_
  refine JE.seq ?_
  refine JC.seq ?_
  refine JC.seq ?_
  refine JC.region ?_
  refine JL.val rfl (Run.move (.tmp (.there rfl (.there rfl (.there rfl (.there rfl (.there rfl (.there rfl .here)))))))) ?_
  refine JL.val rfl (Run.nilPtr (.tmp .here)) ?_
  refine JL.val rfl (Run.fieldAddr (ft := 3) (foff := 41) (off := 41) @Try.underlying46 (by rfl) (@Try.sizeOf3 _) rfl rfl (.tmp .here)) ?_
  refine JL.val rfl (Run.loadB (@Try.isAgg3 _) (.tmp .here) B (by rfl)) ?_
  refine JL.val rfl (Run.assign (.tmp .here)) ?_
  refine JL.nil ?_
  refine JE.keep (L := _) (.cons .here (.cons (.there rfl (.there rfl (.there rfl (.there rfl (.there rfl .here))))) (.cons (.there rfl (.there rfl (.there rfl (.there rfl (.there rfl (.there rfl (.there rfl (.there rfl (.there rfl (.there rfl (.there rfl .here))))))))))) .nil))) ?_
  refine JE.seq ?_
  refine JC.block ?_
  refine JC.loop (α := Nat) (fun z => [(3, .int .i64 0), (2, .int .i64 0), (0, .pointer (some ⟨bb, 0, none⟩))]) (fun z w => Blk w bb 46 (bookCells v1 v2 s) ∧ Ch (One bb) w0 w) (fun z => 0) 0 ⟨B, hK⟩ (.conse .here (rfl) (.conse (.there rfl .here) (rfl) (.cons (.there rfl (.there rfl .here)) .nil))) ?_
  rintro z w1 m2 ⟨B, hK⟩ hmu3
  show JC _ _ _ _ _ [(3, .int .i64 0), (2, .int .i64 0), (0, .pointer (some ⟨bb, 0, none⟩))] _
  refine JC.seq ?_
  refine JC.seq ?_
  refine JC.region ?_
  refine JL.val rfl (Run.move (.tmp .here)) ?_
  refine JL.val rfl (Run.move (.tmp (.there rfl (.there rfl .here)))) ?_
  refine JL.val rfl (Run.lss (.tmp (.there rfl .here)) (.tmp .here)) ?_
  refine JL.nil ?_
  refine JE.seq ?_
  refine JC.condF (.tmp .here) (by decide) ?_
  refine JC.exit ?_
  refine JE.exit_seq ?_
  refine JE.exit_seq ?_
  refine JE.exit_here ?_
  refine JE.seq ?_
  refine JC.region ?_
  refine JL.val rfl (Run.move (.tmp (.there rfl (.there rfl (.there rfl (.there rfl (.there rfl .here))))))) ?_
  refine JL.val rfl (Run.move (.tmp (.there rfl (.there rfl (.there rfl (.there rfl (.there rfl (.there rfl .here)))))))) ?_
  refine JL.val rfl (Run.nilPtr (.tmp .here)) ?_
  refine JL.val rfl (Run.fieldAddr (ft := 40) (foff := 39) (off := 39) @Try.underlying46 (by rfl) (@Try.sizeOf40 _) rfl rfl (.tmp .here)) ?_
  refine JL.val rfl (Run.loadB (@Try.isAgg40 _) (.tmp .here) B (by rfl)) ?_
  refine JL.val rfl (Run.len @Try.underlying40 (.tmp .here)) ?_
  refine JL.val rfl (Run.nilPtr (.tmp (.there rfl (.there rfl (.there rfl (.there rfl (.there rfl .here))))))) ?_
  refine JL.val rfl (Run.fieldAddr (ft := 3) (foff := 41) (off := 41) @Try.underlying46 (by rfl) (@Try.sizeOf3 _) rfl rfl (.tmp .here)) ?_
  refine JL.storeB (@Try.sizeOf3 _) (.tmp .here) (.tmp (.there rfl (.there rfl .here))) (by rfl) (by rfl) B rfl ?_
  intro w4 hc5 hb6
  replace B := hb6; clear hb6
  refine JL.nil ?_
  refine JE.keep (L := _) .nil ?_
  refine JE.end0 @Try.results53 ?_
  exact ⟨rfl, hK.trans hc5, B⟩

set_option maxHeartbeats 4000000 in
theorem growCommits_any {bb : Nat} {v1 v2 : Value} {s : BookS} (w0 : World) (B : Blk w0 bb 46 (bookCells v1 v2 s)) :
    Calls Try.prog 54 #[.pointer (some ⟨bb, 0, none⟩)] w0 fun e w' => e = .returned (.tuple #[]) ∧ Ch (One bb) w0 w' ∧ Blk w' bb 46 (bookCells v1 v2 s) := by
  have hK : Ch (One bb) w0 w0 := Ch.refl w0
  refine calls @Try.func54 rfl @Try.ntmps54 rfl ?_
  show JC _ _ _ _ _ [(0, .pointer (some ⟨bb, 0, none⟩))] _
  refine JC.seq ?_
  refine JC.region ?_
  refine JL.val rfl (Run.move (.tmp .here)) ?_
  refine JL.val rfl (Run.nilPtr (.tmp .here)) ?_
  refine JL.val rfl (Run.fieldAddr (ft := 41) (foff := 42) (off := 42) @Try.underlying46 (by rfl) (@Try.sizeOf41 _) rfl rfl (.tmp .here)) ?_
  refine JL.val rfl (Run.loadB (@Try.isAgg41 _) (.tmp .here) B (by rfl)) ?_
  refine JL.val rfl (Run.len @Try.underlying41 (.tmp .here)) ?_
  refine JL.val rfl (Run.assign (.tmp .here)) ?_
  refine JL.nil ?_
  refine JE.seq ?_
  refine JC.seq ?_
  refine JC.seq ?_
  refine JC.region ?_
  refine JL.val rfl (Run.move (.tmp (.there rfl (.there rfl (.there rfl (.there rfl (.there rfl (.there rfl .here)))))))) ?_
  refine JL.val rfl (Run.nilPtr (.tmp .here)) ?_
  refine JL.val rfl (Run.fieldAddr (ft := 3) (foff := 44) (off := 44) @Try.underlying46 (by rfl) (@Try.sizeOf3 _) rfl rfl (.tmp .here)) ?_
  refine JL.val rfl (Run.loadB (@Try.isAgg3 _) (.tmp .here) B (by rfl)) ?_
  refine JL.val rfl (Run.assign (.tmp .here)) ?_
  refine JL.nil ?_
  refine JE.keep (L := _) (.cons .here (.cons (.there rfl (.there rfl (.there rfl (.there rfl (.there rfl .here))))) (.cons (.there rfl (.there rfl (.there rfl (.there rfl (.there rfl (.there rfl (.there rfl (.there rfl (.there rfl (.there rfl (.there rfl .here))))))))))) .nil))) ?_
  refine JE.seq ?_
  refine JC.block ?_
  refine JC.loop (α := Nat) (fun z => [(3, .int .i64 0), (2, .int .i64 0), (0, .pointer (some ⟨bb, 0, none⟩))]) (fun z w => Blk w bb 46 (bookCells v1 v2 s) ∧ Ch (One bb) w0 w) (fun z => 0) 0 ⟨B, hK⟩ (.conse .here (rfl) (.conse (.there rfl .here) (rfl) (.cons (.there rfl (.there rfl .here)) .nil))) ?_
  rintro z w1 m2 ⟨B, hK⟩ hmu3
  show JC _ _ _ _ _ [(3, .int .i64 0), (2, .int .i64 0), (0, .pointer (some ⟨bb, 0, none⟩))] _
  refine JC.seq ?_
  refine JC.seq ?_
  refine JC.region ?_
  refine JL.val rfl (Run.move (.tmp .here)) ?_
  refine JL.val rfl (Run.move (.tmp (.there rfl (.there rfl .here)))) ?_
  refine JL.val rfl (Run.lss (.tmp (.there rfl .here)) (.tmp .here)) ?_
  refine JL.nil ?_
  refine JE.seq ?_
  refine JC.condF (.tmp .here) (by decide) ?_
  refine JC.exit ?_
  refine JE.exit_seq ?_
  refine JE.exit_seq ?_
  refine JE.exit_here ?_
  refine JE.seq ?_
  refine JC.region ?_
  refine JL.val rfl (Run.move (.tmp (.there rfl (.there rfl (.there rfl (.there rfl (.there rfl .here))))))) ?_
  refine JL.val rfl (Run.move (.tmp (.there rfl (.there rfl (.there rfl (.there rfl (.there rfl (.there rfl .here)))))))) ?_
  refine JL.val rfl (Run.nilPtr (.tmp .here)) ?_
  refine JL.val rfl (Run.fieldAddr (ft := 41) (foff := 42) (off := 42) @Try.underlying46 (by rfl) (@Try.sizeOf41 _) rfl rfl (.tmp .here)) ?_
  refine JL.val rfl (Run.loadB (@Try.isAgg41 _) (.tmp .here) B (by rfl)) ?_
  refine JL.val rfl (Run.len @Try.underlying41 (.tmp .here)) ?_
  refine JL.val rfl (Run.nilPtr (.tmp (.there rfl (.there rfl (.there rfl (.there rfl (.there rfl .here))))))) ?_
  refine JL.val rfl (Run.fieldAddr (ft := 3) (foff := 44) (off := 44) @Try.underlying46 (by rfl) (@Try.sizeOf3 _) rfl rfl (.tmp .here)) ?_
  refine JL.storeB (@Try.sizeOf3 _) (.tmp .here) (.tmp (.there rfl (.there rfl .here))) (by rfl) (by rfl) B rfl ?_
  intro w4 hc5 hb6
  replace B := hb6; clear hb6
  refine JL.nil ?_
  refine JE.keep (L := _) .nil ?_
  refine JE.end0 @Try.results54 ?_
  exact ⟨rfl, hK.trans hc5, B⟩

set_option maxHeartbeats 4000000 in
theorem growTypes_any {bb : Nat} {v1 v2 : Value} {s : BookS} (w0 : World) (B : Blk w0 bb 46 (bookCells v1 v2 s)) :
    Calls Try.prog 55 #[.pointer (some ⟨bb, 0, none⟩)] w0 fun e w' => e = .returned (.tuple #[]) ∧ Ch (One bb) w0 w' ∧ Blk w' bb 46 (bookCells v1 v2 s) := by
  have hK : Ch (One bb) w0 w0 := Ch.refl w0
  refine calls @Try.func55 rfl @Try.ntmps55 rfl ?_
  show JC _ _ _ _ _ [(0, .pointer (some ⟨bb, 0, none⟩))] _
  refine JC.seq ?_
  refine JC.region ?_
  refine JL.val rfl (Run.move (.tmp .here)) ?_
  refine JL.val rfl (Run.nilPtr (.tmp .here)) ?_
  refine JL.val rfl (Run.fieldAddr (ft := 42) (foff := 45) (off := 45) @Try.underlying46 (by rfl) (@Try.sizeOf42 _) rfl rfl (.tmp .here)) ?_
  refine JL.val rfl (Run.loadB (@Try.isAgg42 _) (.tmp .here) B (by rfl)) ?_
  refine JL.val rfl (Run.len @Try.underlying42 (.tmp .here)) ?_
  refine JL.val rfl (Run.assign (.tmp .here)) ?_
  refine JL.nil ?_
  refine JE.seq ?_
  refine JC.seq ?_
  refine JC.seq ?_
  refine JC.region ?_
  refine JL.val rfl (Run.move (.tmp (.there rfl (.there rfl (.there rfl (.there rfl (.there rfl (.there rfl .here)))))))) ?_
  refine JL.val rfl (Run.nilPtr (.tmp .here)) ?_
  refine JL.val rfl (Run.fieldAddr (ft := 3) (foff := 47) (off := 47) @Try.underlying46 (by rfl) (@Try.sizeOf3 _) rfl rfl (.tmp .here)) ?_
  refine JL.val rfl (Run.loadB (@Try.isAgg3 _) (.tmp .here) B (by rfl)) ?_
  refine JL.val rfl (Run.assign (.tmp .here)) ?_
  refine JL.nil ?_
  refine JE.keep (L := _) (.cons .here (.cons (.there rfl (.there rfl (.there rfl (.there rfl (.there rfl .here))))) (.cons (.there rfl (.there rfl (.there rfl (.there rfl (.there rfl (.there rfl (.there rfl (.there rfl (.there rfl (.there rfl (.there rfl .here))))))))))) .nil))) ?_
  refine JE.seq ?_
  refine JC.block ?_
  refine JC.loop (α := Nat) (fun z => [(3, .int .i64 0), (2, .int .i64 0), (0, .pointer (some ⟨bb, 0, none⟩))]) (fun z w => Blk w bb 46 (bookCells v1 v2 s) ∧ Ch (One bb) w0 w) (fun z => 0) 0 ⟨B, hK⟩ (.conse .here (rfl) (.conse (.there rfl .here) (rfl) (.cons (.there rfl (.there rfl .here)) .nil))) ?_
  rintro z w1 m2 ⟨B, hK⟩ hmu3
  show JC _ _ _ _ _ [(3, .int .i64 0), (2, .int .i64 0), (0, .pointer (some ⟨bb, 0, none⟩))] _
  refine JC.seq ?_
  refine JC.seq ?_
  refine JC.region ?_
  refine JL.val rfl (Run.move (.tmp .here)) ?_
  refine JL.val rfl (Run.move (.tmp (.there rfl (.there rfl .here)))) ?_
  refine JL.val rfl (Run.lss (.tmp (.there rfl .here)) (.tmp .here)) ?_
  refine JL.nil ?_
  refine JE.seq ?_
  refine JC.condF (.tmp .here) (by decide) ?_
  refine JC.exit ?_
  refine JE.exit_seq ?_
  refine JE.exit_seq ?_
  refine JE.exit_here ?_
  refine JE.seq ?_
  refine JC.region ?_
  refine JL.val rfl (Run.move (.tmp (.there rfl (.there rfl (.there rfl (.there rfl (.there rfl .here))))))) ?_
  refine JL.val rfl (Run.move (.tmp (.there rfl (.there rfl (.there rfl (.there rfl (.there rfl (.there rfl .here)))))))) ?_
  refine JL.val rfl (Run.nilPtr (.tmp .here)) ?_
  refine JL.val rfl (Run.fieldAddr (ft := 42) (foff := 45) (off := 45) @Try.underlying46 (by rfl) (@Try.sizeOf42 _) rfl rfl (.tmp .here)) ?_
  refine JL.val rfl (Run.loadB (@Try.isAgg42 _) (.tmp .here) B (by rfl)) ?_
  refine JL.val rfl (Run.len @Try.underlying42 (.tmp .here)) ?_
  refine JL.val rfl (Run.nilPtr (.tmp (.there rfl (.there rfl (.there rfl (.there rfl (.there rfl .here))))))) ?_
  refine JL.val rfl (Run.fieldAddr (ft := 3) (foff := 47) (off := 47) @Try.underlying46 (by rfl) (@Try.sizeOf3 _) rfl rfl (.tmp .here)) ?_
  refine JL.storeB (@Try.sizeOf3 _) (.tmp .here) (.tmp (.there rfl (.there rfl .here))) (by rfl) (by rfl) B rfl ?_
  intro w4 hc5 hb6
  replace B := hb6; clear hb6
  refine JL.nil ?_
  refine JE.keep (L := _) .nil ?_
  refine JE.end0 @Try.results55 ?_
  exact ⟨rfl, hK.trans hc5, B⟩

set_option maxHeartbeats 4000000 in
theorem growTypeds_any {bb : Nat} {v1 v2 : Value} {s : BookS} (w0 : World) (B : Blk w0 bb 46 (bookCells v1 v2 s)) :
    Calls Try.prog 56 #[.pointer (some ⟨bb, 0, none⟩)] w0 fun e w' => e = .returned (.tuple #[]) ∧ Ch (One bb) w0 w' ∧ Blk w' bb 46 (bookCells v1 v2 s) := by
  have hK : Ch (One bb) w0 w0 := Ch.refl w0
  refine calls @Try.func56 rfl @Try.ntmps56 rfl ?_
  show JC _ _ _ _ _ [(0, .pointer (some ⟨bb, 0, none⟩))] _
  refine JC.seq ?_
  refine JC.region ?_
  refine JL.val rfl (Run.move (.tmp .here)) ?_
  refine JL.val rfl (Run.nilPtr (.tmp .here)) ?_
  refine JL.val rfl (Run.fieldAddr (ft := 43) (foff := 48) (off := 48) @Try.underlying46 (by rfl) (@Try.sizeOf43 _) rfl rfl (.tmp .here)) ?_
  refine JL.val rfl (Run.loadB (@Try.isAgg43 _) (.tmp .here) B (by rfl)) ?_
  refine JL.val rfl (Run.len @Try.underlying43 (.tmp .here)) ?_
  refine JL.val rfl (Run.assign (.tmp .here)) ?_
  refine JL.nil ?_
  refine JE.seq ?_
  refine JC.seq ?_
  refine JC.seq ?_
  refine JC.region ?_
  refine JL.val rfl (Run.move (.tmp (.there rfl (.there rfl (.there rfl (.there rfl (.there rfl (.there rfl .here)))))))) ?_
  refine JL.val rfl (Run.nilPtr (.tmp .here)) ?_
  refine JL.val rfl (Run.fieldAddr (ft := 3) (foff := 50) (off := 50) @Try.underlying46 (by rfl) (@Try.sizeOf3 _) rfl rfl (.tmp .here)) ?_
  refine JL.val rfl (Run.loadB (@Try.isAgg3 _) (.tmp .here) B (by rfl)) ?_
  refine JL.val rfl (Run.assign (.tmp .here)) ?_
  refine JL.nil ?_
  refine JE.keep (L := _) (.cons .here (.cons (.there rfl (.there rfl (.there rfl (.there rfl (.there rfl .here))))) (.cons (.there rfl (.there rfl (.there rfl (.there rfl (.there rfl (.there rfl (.there rfl (.there rfl (.there rfl (.there rfl (.there rfl .here))))))))))) .nil))) ?_
  refine JE.seq ?_
  refine JC.block ?_
  refine JC.loop (α := Nat) (fun z => [(3, .int .i64 0), (2, .int .i64 0), (0, .pointer (some ⟨bb, 0, none⟩))]) (fun z w => Blk w bb 46 (bookCells v1 v2 s) ∧ Ch (One bb) w0 w) (fun z => 0) 0 ⟨B, hK⟩ (.conse .here (rfl) (.conse (.there rfl .here) (rfl) (.cons (.there rfl (.there rfl .here)) .nil))) ?_
  rintro z w1 m2 ⟨B, hK⟩ hmu3
  show JC _ _ _ _ _ [(3, .int .i64 0), (2, .int .i64 0), (0, .pointer (some ⟨bb, 0, none⟩))] _
  refine JC.seq ?_
  refine JC.seq ?_
  refine JC.region ?_
  refine JL.val rfl (Run.move (.tmp .here)) ?_
  refine JL.val rfl (Run.move (.tmp (.there rfl (.there rfl .here)))) ?_
  refine JL.val rfl (Run.lss (.tmp (.there rfl .here)) (.tmp .here)) ?_
  refine JL.nil ?_
  refine JE.seq ?_
  refine JC.condF (.tmp .here) (by decide) ?_
  refine JC.exit ?_
  refine JE.exit_seq ?_
  refine JE.exit_seq ?_
  refine JE.exit_here ?_
  refine JE.seq ?_
  refine JC.region ?_
  refine JL.val rfl (Run.move (.tmp (.there rfl (.there rfl (.there rfl (.there rfl (.there rfl .here))))))) ?_
  refine JL.val rfl (Run.move (.tmp (.there rfl (.there rfl (.there rfl (.there rfl (.there rfl (.there rfl .here)))))))) ?_
  refine JL.val rfl (Run.nilPtr (.tmp .here)) ?_
  refine JL.val rfl (Run.fieldAddr (ft := 43) (foff := 48) (off := 48) @Try.underlying46 (by rfl) (@Try.sizeOf43 _) rfl rfl (.tmp .here)) ?_
  refine JL.val rfl (Run.loadB (@Try.isAgg43 _) (.tmp .here) B (by rfl)) ?_
  refine JL.val rfl (Run.len @Try.underlying43 (.tmp .here)) ?_
  refine JL.val rfl (Run.nilPtr (.tmp (.there rfl (.there rfl (.there rfl (.there rfl (.there rfl .here))))))) ?_
  refine JL.val rfl (Run.fieldAddr (ft := 3) (foff := 50) (off := 50) @Try.underlying46 (by rfl) (@Try.sizeOf3 _) rfl rfl (.tmp .here)) ?_
  refine JL.storeB (@Try.sizeOf3 _) (.tmp .here) (.tmp (.there rfl (.there rfl .here))) (by rfl) (by rfl) B rfl ?_
  intro w4 hc5 hb6
  replace B := hb6; clear hb6
  refine JL.nil ?_
  refine JE.keep (L := _) .nil ?_
  refine JE.end0 @Try.results56 ?_
  exact ⟨rfl, hK.trans hc5, B⟩

set_option maxHeartbeats 4000000 in
theorem growSteps_any {bb : Nat} {v1 v2 : Value} {s : BookS} (w0 : World) (B : Blk w0 bb 46 (bookCells v1 v2 s)) :
    Calls Try.prog 57 #[.pointer (some ⟨bb, 0, none⟩)] w0 fun e w' => e = .returned (.tuple #[]) ∧ Ch (One bb) w0 w' ∧ Blk w' bb 46 (bookCells v1 v2 s) := by
  have hK : Ch (One bb) w0 w0 := Ch.refl w0
  refine calls @Try.func57 rfl @Try.ntmps57 rfl ?_
  show JC _ _ _ _ _ [(0, .pointer (some ⟨bb, 0, none⟩))] _
  refine JC.seq ?_
  refine JC.region ?_
  refine JL.val rfl (Run.move (.tmp .here)) ?_
  refine JL.val rfl (Run.nilPtr (.tmp .here)) ?_
  refine JL.val rfl (Run.fieldAddr (ft := 44) (foff := 51) (off := 51) @Try.underlying46 (by rfl) (@Try.sizeOf44 _) rfl rfl (.tmp .here)) ?_
  refine JL.val rfl (Run.loadB (@Try.isAgg44 _) (.tmp .here) B (by rfl)) ?_
  refine JL.val rfl (Run.len @Try.underlying44 (.tmp .here)) ?_
  refine JL.val rfl (Run.assign (.tmp .here)) ?_
  refine JL.nil ?_
  refine JE.seq ?_
  refine JC.seq ?_
  refine JC.seq ?_
  refine JC.region ?_
  refine JL.val rfl (Run.move (.tmp (.there rfl (.there rfl (.there rfl (.there rfl (.there rfl (.there rfl .here)))))))) ?_
  refine JL.val rfl (Run.nilPtr (.tmp .here)) ?_
  refine JL.val rfl (Run.fieldAddr (ft := 3) (foff := 53) (off := 53) @Try.underlying46 (by rfl) (@Try.sizeOf3 _) rfl rfl (.tmp .here)) ?_
  refine JL.val rfl (Run.loadB (@Try.isAgg3 _) (.tmp .here) B (by rfl)) ?_
  refine JL.val rfl (Run.assign (.tmp .here)) ?_
  refine JL.nil ?_
  refine JE.keep (L := _) (.cons .here (.cons (.there rfl (.there rfl (.there rfl (.there rfl (.there rfl .here))))) (.cons (.there rfl (.there rfl (.there rfl (.there rfl (.there rfl (.there rfl (.there rfl (.there rfl (.there rfl (.there rfl (.there rfl .here))))))))))) .nil))) ?_
  refine JE.seq ?_
  refine JC.block ?_
  refine JC.loop (α := Nat) (fun z => [(3, .int .i64 0), (2, .int .i64 0), (0, .pointer (some ⟨bb, 0, none⟩))]) (fun z w => Blk w bb 46 (bookCells v1 v2 s) ∧ Ch (One bb) w0 w) (fun z => 0) 0 ⟨B, hK⟩ (.conse .here (rfl) (.conse (.there rfl .here) (rfl) (.cons (.there rfl (.there rfl .here)) .nil))) ?_
  rintro z w1 m2 ⟨B, hK⟩ hmu3
  show JC _ _ _ _ _ [(3, .int .i64 0), (2, .int .i64 0), (0, .pointer (some ⟨bb, 0, none⟩))] _
  refine JC.seq ?_
  refine JC.seq ?_
  refine JC.region ?_
  refine JL.val rfl (Run.move (.tmp .here)) ?_
  refine JL.val rfl (Run.move (.tmp (.there rfl (.there rfl .here)))) ?_
  refine JL.val rfl (Run.lss (.tmp (.there rfl .here)) (.tmp .here)) ?_
  refine JL.nil ?_
  refine JE.seq ?_
  refine JC.condF (.tmp .here) (by decide) ?_
  refine JC.exit ?_
  refine JE.exit_seq ?_
  refine JE.exit_seq ?_
  refine JE.exit_here ?_
  refine JE.seq ?_
  refine JC.region ?_
  refine JL.val rfl (Run.move (.tmp (.there rfl (.there rfl (.there rfl (.there rfl (.there rfl .here))))))) ?_
  refine JL.val rfl (Run.move (.tmp (.there rfl (.there rfl (.there rfl (.there rfl (.there rfl (.there rfl .here)))))))) ?_
  refine JL.val rfl (Run.nilPtr (.tmp .here)) ?_
  refine JL.val rfl (Run.fieldAddr (ft := 44) (foff := 51) (off := 51) @Try.underlying46 (by rfl) (@Try.sizeOf44 _) rfl rfl (.tmp .here)) ?_
  refine JL.val rfl (Run.loadB (@Try.isAgg44 _) (.tmp .here) B (by rfl)) ?_
  refine JL.val rfl (Run.len @Try.underlying44 (.tmp .here)) ?_
  refine JL.val rfl (Run.nilPtr (.tmp (.there rfl (.there rfl (.there rfl (.there rfl (.there rfl .here))))))) ?_
  refine JL.val rfl (Run.fieldAddr (ft := 3) (foff := 53) (off := 53) @Try.underlying46 (by rfl) (@Try.sizeOf3 _) rfl rfl (.tmp .here)) ?_
  refine JL.storeB (@Try.sizeOf3 _) (.tmp .here) (.tmp (.there rfl (.there rfl .here))) (by rfl) (by rfl) B rfl ?_
  intro w4 hc5 hb6
  replace B := hb6; clear hb6
  refine JL.nil ?_
  refine JE.keep (L := _) .nil ?_
  refine JE.end0 @Try.results57 ?_
  exact ⟨rfl, hK.trans hc5, B⟩

set_option maxHeartbeats 4000000 in
theorem kept_any {bb : Nat} {v1 v2 : Value} {s : BookS} (w0 : World) (B : Blk w0 bb 46 (bookCells v1 v2 s)) :
    Calls Try.prog 36 #[.pointer (some ⟨bb, 0, none⟩)] w0 fun e w' => e = .returned (.bool true) ∧ Ch No w0 w' := by
  have hK : Ch No w0 w0 := Ch.refl w0
  refine calls @Try.func36 rfl @Try.ntmps36 rfl ?_
  show JC _ _ _ _ _ [(0, .pointer (some ⟨bb, 0, none⟩))] _
  refine JC.seq ?_
  refine JC.region ?_
  refine JL.val rfl (Run.assign .const) ?_
  refine JL.nil ?_
  refine JE.seq ?_
  refine JC.seq ?_
  refine JC.seq ?_
  refine JC.region ?_
  refine JL.val rfl (Run.assign .const) ?_
  refine JL.nil ?_
  refine JE.seq ?_
  refine JC.block ?_
  refine JC.loop (α := Nat) (fun z => [(3, .int .i64 0), (2, .bool false), (0, .pointer (some ⟨bb, 0, none⟩))]) (fun z w => Blk w bb 46 (bookCells v1 v2 s) ∧ Ch No w0 w) (fun z => 0) 0 ⟨B, hK⟩ (.conse .here (rfl) (.conse (.there rfl .here) (rfl) (.cons (.there rfl (.there rfl .here)) .nil))) ?_
  rintro z w1 m2 ⟨B, hK⟩ hmu3
  show JC _ _ _ _ _ [(3, .int .i64 0), (2, .bool false), (0, .pointer (some ⟨bb, 0, none⟩))] _
  refine JC.seq ?_
  refine JC.seq ?_
  refine JC.region ?_
  refine JL.val rfl (Run.move (.tmp .here)) ?_
  refine JL.val rfl (Run.move (.tmp (.there rfl (.there rfl (.there rfl .here))))) ?_
  refine JL.val rfl (Run.nilPtr (.tmp .here)) ?_
  refine JL.val rfl (Run.fieldAddr (ft := 29) (foff := 6) (off := 6) @Try.underlying46 (by rfl) (@Try.sizeOf29 _) rfl rfl (.tmp .here)) ?_
  refine JL.val rfl (Run.loadB (@Try.isAgg29 _) (.tmp .here) B (by rfl)) ?_
  refine JL.val rfl (Run.len @Try.underlying29 (.tmp .here)) ?_
  refine JL.val rfl (Run.lss (.tmp (.there rfl (.there rfl (.there rfl (.there rfl (.there rfl .here)))))) (.tmp .here)) ?_
  refine JL.nil ?_
  refine JE.seq ?_
  refine JC.condF (.tmp .here) (by decide) ?_
  refine JC.exit ?_
  refine JE.exit_seq ?_
  refine JE.exit_seq ?_
  refine JE.exit_here ?_
  refine JE.seq ?_
  refine JC.seq ?_
  refine JC.seq ?_
  refine JC.region ?_
  refine JL.val rfl (Run.assign .const) ?_
  refine JL.nil ?_
  refine JE.keep (L := _) (.cons .here (.cons (.there rfl (.there rfl (.there rfl (.there rfl (.there rfl (.there rfl (.there rfl (.there rfl (.there rfl .here))))))))) (.cons (.there rfl (.there rfl (.there rfl (.there rfl (.there rfl (.there rfl (.there rfl (.there rfl (.there rfl (.there rfl .here)))))))))) .nil))) ?_
  refine JE.seq ?_
  refine JC.block ?_
  refine JC.loop (α := Nat) (fun z => [(5, .int .i64 0), (2, .bool false), (0, .pointer (some ⟨bb, 0, none⟩))]) (fun z w => Blk w bb 46 (bookCells v1 v2 s) ∧ Ch No w0 w) (fun z => 0) 0 ⟨B, hK⟩ (.conse .here (rfl) (.conse (.there rfl .here) (rfl) (.cons (.there rfl (.there rfl .here)) .nil))) ?_
  rintro z w4 m5 ⟨B, hK⟩ hmu6
  show JC _ _ _ _ _ [(5, .int .i64 0), (2, .bool false), (0, .pointer (some ⟨bb, 0, none⟩))] _
  refine JC.seq ?_
  refine JC.seq ?_
  refine JC.region ?_
  refine JL.val rfl (Run.move (.tmp .here)) ?_
  refine JL.val rfl (Run.move (.tmp (.there rfl (.there rfl (.there rfl .here))))) ?_
  refine JL.val rfl (Run.nilPtr (.tmp .here)) ?_
  refine JL.val rfl (Run.fieldAddr (ft := 30) (foff := 9) (off := 9) @Try.underlying46 (by rfl) (@Try.sizeOf30 _) rfl rfl (.tmp .here)) ?_
  refine JL.val rfl (Run.loadB (@Try.isAgg30 _) (.tmp .here) B (by rfl)) ?_
  refine JL.val rfl (Run.len @Try.underlying30 (.tmp .here)) ?_
  refine JL.val rfl (Run.lss (.tmp (.there rfl (.there rfl (.there rfl (.there rfl (.there rfl .here)))))) (.tmp .here)) ?_
  refine JL.nil ?_
  refine JE.seq ?_
  refine JC.condF (.tmp .here) (by decide) ?_
  refine JC.exit ?_
  refine JE.exit_seq ?_
  refine JE.exit_seq ?_
  refine JE.exit_here ?_
  refine JE.seq ?_
  refine JC.seq ?_
  refine JC.seq ?_
  refine JC.region ?_
  refine JL.val rfl (Run.assign .const) ?_
  refine JL.nil ?_
  refine JE.keep (L := _) (.cons .here (.cons (.there rfl (.there rfl (.there rfl (.there rfl (.there rfl (.there rfl (.there rfl (.there rfl (.there rfl .here))))))))) (.cons (.there rfl (.there rfl (.there rfl (.there rfl (.there rfl (.there rfl (.there rfl (.there rfl (.there rfl (.there rfl .here)))))))))) .nil))) ?_
  refine JE.seq ?_
  refine JC.block ?_
  refine JC.loop (α := Nat) (fun z => [(7, .int .i64 0), (2, .bool false), (0, .pointer (some ⟨bb, 0, none⟩))]) (fun z w => Blk w bb 46 (bookCells v1 v2 s) ∧ Ch No w0 w) (fun z => 0) 0 ⟨B, hK⟩ (.conse .here (rfl) (.conse (.there rfl .here) (rfl) (.cons (.there rfl (.there rfl .here)) .nil))) ?_
  rintro z w7 m8 ⟨B, hK⟩ hmu9
  show JC _ _ _ _ _ [(7, .int .i64 0), (2, .bool false), (0, .pointer (some ⟨bb, 0, none⟩))] _
  refine JC.seq ?_
  refine JC.seq ?_
  refine JC.region ?_
  refine JL.val rfl (Run.move (.tmp .here)) ?_
  refine JL.val rfl (Run.move (.tmp (.there rfl (.there rfl (.there rfl .here))))) ?_
  refine JL.val rfl (Run.nilPtr (.tmp .here)) ?_
  refine JL.val rfl (Run.fieldAddr (ft := 31) (foff := 12) (off := 12) @Try.underlying46 (by rfl) (@Try.sizeOf31 _) rfl rfl (.tmp .here)) ?_
  refine JL.val rfl (Run.loadB (@Try.isAgg31 _) (.tmp .here) B (by rfl)) ?_
  refine JL.val rfl (Run.len @Try.underlying31 (.tmp .here)) ?_
  refine JL.val rfl (Run.lss (.tmp (.there rfl (.there rfl (.there rfl (.there rfl (.there rfl .here)))))) (.tmp .here)) ?_
  refine JL.nil ?_
  refine JE.seq ?_
  refine JC.condF (.tmp .here) (by decide) ?_
  refine JC.exit ?_
  refine JE.exit_seq ?_
  refine JE.exit_seq ?_
  refine JE.exit_here ?_
  refine JE.seq ?_
  refine JC.seq ?_
  refine JC.seq ?_
  refine JC.region ?_
  refine JL.val rfl (Run.assign .const) ?_
  refine JL.nil ?_
  refine JE.keep (L := _) (.cons .here (.cons (.there rfl (.there rfl (.there rfl (.there rfl (.there rfl (.there rfl (.there rfl (.there rfl (.there rfl .here))))))))) (.cons (.there rfl (.there rfl (.there rfl (.there rfl (.there rfl (.there rfl (.there rfl (.there rfl (.there rfl (.there rfl .here)))))))))) .nil))) ?_
  refine JE.seq ?_
  refine JC.block ?_
  refine JC.loop (α := Nat) (fun z => [(9, .int .i64 0), (2, .bool false), (0, .pointer (some ⟨bb, 0, none⟩))]) (fun z w => Blk w bb 46 (bookCells v1 v2 s) ∧ Ch No w0 w) (fun z => 0) 0 ⟨B, hK⟩ (.conse .here (rfl) (.conse (.there rfl .here) (rfl) (.cons (.there rfl (.there rfl .here)) .nil))) ?_
  rintro z w10 m11 ⟨B, hK⟩ hmu12
  show JC _ _ _ _ _ [(9, .int .i64 0), (2, .bool false), (0, .pointer (some ⟨bb, 0, none⟩))] _
  refine JC.seq ?_
  refine JC.seq ?_
  refine JC.region ?_
  refine JL.val rfl (Run.move (.tmp .here)) ?_
  refine JL.val rfl (Run.move (.tmp (.there rfl (.there rfl (.there rfl .here))))) ?_
  refine JL.val rfl (Run.nilPtr (.tmp .here)) ?_
  refine JL.val rfl (Run.fieldAddr (ft := 32) (foff := 15) (off := 15) @Try.underlying46 (by rfl) (@Try.sizeOf32 _) rfl rfl (.tmp .here)) ?_
  refine JL.val rfl (Run.loadB (@Try.isAgg32 _) (.tmp .here) B (by rfl)) ?_
  refine JL.val rfl (Run.len @Try.underlying32 (.tmp .here)) ?_
  refine JL.val rfl (Run.lss (.tmp (.there rfl (.there rfl (.there rfl (.there rfl (.there rfl .here)))))) (.tmp .here)) ?_
  refine JL.nil ?_
  refine JE.seq ?_
  refine JC.condF (.tmp .here) (by decide) ?_
  refine JC.exit ?_
  refine JE.exit_seq ?_
  refine JE.exit_seq ?_
  refine JE.exit_here ?_
  refine JE.seq ?_
  refine JC.seq ?_
  refine JC.region ?_
  refine JL.val rfl (Run.assign .const) ?_
  refine JL.nil ?_
  refine JE.keep (L := _) (.cons .here .nil) ?_
  refine JE.seq ?_
  refine JC.ret ?_
  refine JE.ret1 @Try.results36 .here ?_
  exact ⟨rfl, hK⟩

set_option maxHeartbeats 4000000 in
theorem told_any {bb : Nat} {v1 v2 : Value} {s : BookS} (w0 : World) (B : Blk w0 bb 46 (bookCells v1 v2 s)) :
    Calls Try.prog 37 #[.pointer (some ⟨bb, 0, none⟩)] w0 fun e w' => e = .returned (.bool true) ∧ Ch No w0 w' := by
  have hK : Ch No w0 w0 := Ch.refl w0
  refine calls @Try.func37 rfl @Try.ntmps37 rfl ?_
  show JC _ _ _ _ _ [(0, .pointer (some ⟨bb, 0, none⟩))] _
  refine JC.seq ?_
  refine JC.region ?_
  refine JL.val rfl (Run.assign .const) ?_
  refine JL.nil ?_
  refine JE.seq ?_
  refine JC.seq ?_
  refine JC.seq ?_
  refine JC.region ?_
  refine JL.val rfl (Run.assign .const) ?_
  refine JL.nil ?_
  refine JE.seq ?_
  refine JC.block ?_
  refine JC.loop (α := Nat) (fun z => [(3, .int .i64 0), (2, .bool false), (0, .pointer (some ⟨bb, 0, none⟩))]) (fun z w => Blk w bb 46 (bookCells v1 v2 s) ∧ Ch No w0 w) (fun z => 0) 0 ⟨B, hK⟩ (.conse .here (rfl) (.conse (.there rfl .here) (rfl) (.cons (.there rfl (.there rfl .here)) .nil))) ?_
  rintro z w1 m2 ⟨B, hK⟩ hmu3
  show JC _ _ _ _ _ [(3, .int .i64 0), (2, .bool false), (0, .pointer (some ⟨bb, 0, none⟩))] _
  refine JC.seq ?_
  refine JC.seq ?_
  refine JC.region ?_
  refine JL.val rfl (Run.move (.tmp .here)) ?_
  refine JL.val rfl (Run.move (.tmp (.there rfl (.there rfl (.there rfl .here))))) ?_
  refine JL.val rfl (Run.nilPtr (.tmp .here)) ?_
  refine JL.val rfl (Run.fieldAddr (ft := 33) (foff := 18) (off := 18) @Try.underlying46 (by rfl) (@Try.sizeOf33 _) rfl rfl (.tmp .here)) ?_
  refine JL.val rfl (Run.loadB (@Try.isAgg33 _) (.tmp .here) B (by rfl)) ?_
  refine JL.val rfl (Run.len @Try.underlying33 (.tmp .here)) ?_
  refine JL.val rfl (Run.lss (.tmp (.there rfl (.there rfl (.there rfl (.there rfl (.there rfl .here)))))) (.tmp .here)) ?_
  refine JL.nil ?_
  refine JE.seq ?_
  refine JC.condF (.tmp .here) (by decide) ?_
  refine JC.exit ?_
  refine JE.exit_seq ?_
  refine JE.exit_seq ?_
  refine JE.exit_here ?_
  refine JE.seq ?_
  refine JC.seq ?_
  refine JC.seq ?_
  refine JC.region ?_
  refine JL.val rfl (Run.assign .const) ?_
  refine JL.nil ?_
  refine JE.keep (L := _) (.cons .here (.cons (.there rfl (.there rfl (.there rfl (.there rfl (.there rfl (.there rfl (.there rfl (.there rfl (.there rfl .here))))))))) (.cons (.there rfl (.there rfl (.there rfl (.there rfl (.there rfl (.there rfl (.there rfl (.there rfl (.there rfl (.there rfl .here)))))))))) .nil))) ?_
  refine JE.seq ?_
  refine JC.block ?_
  refine JC.loop (α := Nat) (fun z => [(5, .int .i64 0), (2, .bool false), (0, .pointer (some ⟨bb, 0, none⟩))]) (fun z w => Blk w bb 46 (bookCells v1 v2 s) ∧ Ch No w0 w) (fun z => 0) 0 ⟨B, hK⟩ (.conse .here (rfl) (.conse (.there rfl .here) (rfl) (.cons (.there rfl (.there rfl .here)) .nil))) ?_
  rintro z w4 m5 ⟨B, hK⟩ hmu6
  show JC _ _ _ _ _ [(5, .int .i64 0), (2, .bool false), (0, .pointer (some ⟨bb, 0, none⟩))] _
  refine JC.seq ?_
  refine JC.seq ?_
  refine JC.region ?_
  refine JL.val rfl (Run.move (.tmp .here)) ?_
  refine JL.val rfl (Run.move (.tmp (.there rfl (.there rfl (.there rfl .here))))) ?_
  refine JL.val rfl (Run.nilPtr (.tmp .here)) ?_
  refine JL.val rfl (Run.fieldAddr (ft := 34) (foff := 21) (off := 21) @Try.underlying46 (by rfl) (@Try.sizeOf34 _) rfl rfl (.tmp .here)) ?_
  refine JL.val rfl (Run.loadB (@Try.isAgg34 _) (.tmp .here) B (by rfl)) ?_
  refine JL.val rfl (Run.len @Try.underlying34 (.tmp .here)) ?_
  refine JL.val rfl (Run.lss (.tmp (.there rfl (.there rfl (.there rfl (.there rfl (.there rfl .here)))))) (.tmp .here)) ?_
  refine JL.nil ?_
  refine JE.seq ?_
  refine JC.condF (.tmp .here) (by decide) ?_
  refine JC.exit ?_
  refine JE.exit_seq ?_
  refine JE.exit_seq ?_
  refine JE.exit_here ?_
  refine JE.seq ?_
  refine JC.seq ?_
  refine JC.seq ?_
  refine JC.region ?_
  refine JL.val rfl (Run.assign .const) ?_
  refine JL.nil ?_
  refine JE.keep (L := _) (.cons .here (.cons (.there rfl (.there rfl (.there rfl (.there rfl (.there rfl (.there rfl (.there rfl (.there rfl (.there rfl .here))))))))) (.cons (.there rfl (.there rfl (.there rfl (.there rfl (.there rfl (.there rfl (.there rfl (.there rfl (.there rfl (.there rfl .here)))))))))) .nil))) ?_
  refine JE.seq ?_
  refine JC.block ?_
  refine JC.loop (α := Nat) (fun z => [(7, .int .i64 0), (2, .bool false), (0, .pointer (some ⟨bb, 0, none⟩))]) (fun z w => Blk w bb 46 (bookCells v1 v2 s) ∧ Ch No w0 w) (fun z => 0) 0 ⟨B, hK⟩ (.conse .here (rfl) (.conse (.there rfl .here) (rfl) (.cons (.there rfl (.there rfl .here)) .nil))) ?_
  rintro z w7 m8 ⟨B, hK⟩ hmu9
  show JC _ _ _ _ _ [(7, .int .i64 0), (2, .bool false), (0, .pointer (some ⟨bb, 0, none⟩))] _
  refine JC.seq ?_
  refine JC.seq ?_
  refine JC.region ?_
  refine JL.val rfl (Run.move (.tmp .here)) ?_
  refine JL.val rfl (Run.move (.tmp (.there rfl (.there rfl (.there rfl .here))))) ?_
  refine JL.val rfl (Run.nilPtr (.tmp .here)) ?_
  refine JL.val rfl (Run.fieldAddr (ft := 35) (foff := 24) (off := 24) @Try.underlying46 (by rfl) (@Try.sizeOf35 _) rfl rfl (.tmp .here)) ?_
  refine JL.val rfl (Run.loadB (@Try.isAgg35 _) (.tmp .here) B (by rfl)) ?_
  refine JL.val rfl (Run.len @Try.underlying35 (.tmp .here)) ?_
  refine JL.val rfl (Run.lss (.tmp (.there rfl (.there rfl (.there rfl (.there rfl (.there rfl .here)))))) (.tmp .here)) ?_
  refine JL.nil ?_
  refine JE.seq ?_
  refine JC.condF (.tmp .here) (by decide) ?_
  refine JC.exit ?_
  refine JE.exit_seq ?_
  refine JE.exit_seq ?_
  refine JE.exit_here ?_
  refine JE.seq ?_
  refine JC.seq ?_
  refine JC.seq ?_
  refine JC.region ?_
  refine JL.val rfl (Run.assign .const) ?_
  refine JL.nil ?_
  refine JE.keep (L := _) (.cons .here (.cons (.there rfl (.there rfl (.there rfl (.there rfl (.there rfl (.there rfl (.there rfl (.there rfl (.there rfl .here))))))))) (.cons (.there rfl (.there rfl (.there rfl (.there rfl (.there rfl (.there rfl (.there rfl (.there rfl (.there rfl (.there rfl .here)))))))))) .nil))) ?_
  refine JE.seq ?_
  refine JC.block ?_
  refine JC.loop (α := Nat) (fun z => [(9, .int .i64 0), (2, .bool false), (0, .pointer (some ⟨bb, 0, none⟩))]) (fun z w => Blk w bb 46 (bookCells v1 v2 s) ∧ Ch No w0 w) (fun z => 0) 0 ⟨B, hK⟩ (.conse .here (rfl) (.conse (.there rfl .here) (rfl) (.cons (.there rfl (.there rfl .here)) .nil))) ?_
  rintro z w10 m11 ⟨B, hK⟩ hmu12
  show JC _ _ _ _ _ [(9, .int .i64 0), (2, .bool false), (0, .pointer (some ⟨bb, 0, none⟩))] _
  refine JC.seq ?_
  refine JC.seq ?_
  refine JC.region ?_
  refine JL.val rfl (Run.move (.tmp .here)) ?_
  refine JL.val rfl (Run.move (.tmp (.there rfl (.there rfl (.there rfl .here))))) ?_
  refine JL.val rfl (Run.nilPtr (.tmp .here)) ?_
  refine JL.val rfl (Run.fieldAddr (ft := 36) (foff := 27) (off := 27) @Try.underlying46 (by rfl) (@Try.sizeOf36 _) rfl rfl (.tmp .here)) ?_
  refine JL.val rfl (Run.loadB (@Try.isAgg36 _) (.tmp .here) B (by rfl)) ?_
  refine JL.val rfl (Run.len @Try.underlying36 (.tmp .here)) ?_
  refine JL.val rfl (Run.lss (.tmp (.there rfl (.there rfl (.there rfl (.there rfl (.there rfl .here)))))) (.tmp .here)) ?_
  refine JL.nil ?_
  refine JE.seq ?_
  refine JC.condF (.tmp .here) (by decide) ?_
  refine JC.exit ?_
  refine JE.exit_seq ?_
  refine JE.exit_seq ?_
  refine JE.exit_here ?_
  refine JE.seq ?_
  refine JC.seq ?_
  refine JC.region ?_
  refine JL.val rfl (Run.assign .const) ?_
  refine JL.nil ?_
  refine JE.keep (L := _) (.cons .here .nil) ?_
  refine JE.seq ?_
  refine JC.ret ?_
  refine JE.ret1 @Try.results37 .here ?_
  exact ⟨rfl, hK⟩

set_option maxHeartbeats 4000000 in
theorem held_any {bb : Nat} {v1 v2 : Value} {s : BookS} (w0 : World) (B : Blk w0 bb 46 (bookCells v1 v2 s)) :
    Calls Try.prog 38 #[.pointer (some ⟨bb, 0, none⟩)] w0 fun e w' => e = .returned (.bool true) ∧ Ch No w0 w' := by
  have hK : Ch No w0 w0 := Ch.refl w0
  refine calls @Try.func38 rfl @Try.ntmps38 rfl ?_
  show JC _ _ _ _ _ [(0, .pointer (some ⟨bb, 0, none⟩))] _
  refine JC.seq ?_
  refine JC.region ?_
  refine JL.val rfl (Run.assign .const) ?_
  refine JL.nil ?_
  refine JE.seq ?_
  refine JC.seq ?_
  refine JC.seq ?_
  refine JC.region ?_
  refine JL.val rfl (Run.assign .const) ?_
  refine JL.nil ?_
  refine JE.seq ?_
  refine JC.block ?_
  refine JC.loop (α := Nat) (fun z => [(3, .int .i64 0), (2, .bool false), (0, .pointer (some ⟨bb, 0, none⟩))]) (fun z w => Blk w bb 46 (bookCells v1 v2 s) ∧ Ch No w0 w) (fun z => 0) 0 ⟨B, hK⟩ (.conse .here (rfl) (.conse (.there rfl .here) (rfl) (.cons (.there rfl (.there rfl .here)) .nil))) ?_
  rintro z w1 m2 ⟨B, hK⟩ hmu3
  show JC _ _ _ _ _ [(3, .int .i64 0), (2, .bool false), (0, .pointer (some ⟨bb, 0, none⟩))] _
  refine JC.seq ?_
  refine JC.seq ?_
  refine JC.region ?_
  refine JL.val rfl (Run.move (.tmp .here)) ?_
  refine JL.val rfl (Run.move (.tmp (.there rfl (.there rfl (.there rfl .here))))) ?_
  refine JL.val rfl (Run.nilPtr (.tmp .here)) ?_
  refine JL.val rfl (Run.fieldAddr (ft := 37) (foff := 30) (off := 30) @Try.underlying46 (by rfl) (@Try.sizeOf37 _) rfl rfl (.tmp .here)) ?_
  refine JL.val rfl (Run.loadB (@Try.isAgg37 _) (.tmp .here) B (by rfl)) ?_
  refine JL.val rfl (Run.len @Try.underlying37 (.tmp .here)) ?_
  refine JL.val rfl (Run.lss (.tmp (.there rfl (.there rfl (.there rfl (.there rfl (.there rfl .here)))))) (.tmp .here)) ?_
  refine JL.nil ?_
  refine JE.seq ?_
  refine JC.condF (.tmp .here) (by decide) ?_
  refine JC.exit ?_
  refine JE.exit_seq ?_
  refine JE.exit_seq ?_
  refine JE.exit_here ?_
  refine JE.seq ?_
  refine JC.seq ?_
  refine JC.seq ?_
  refine JC.region ?_
  refine JL.val rfl (Run.assign .const) ?_
  refine JL.nil ?_
  refine JE.keep (L := _) (.cons .here (.cons (.there rfl (.there rfl (.there rfl (.there rfl (.there rfl (.there rfl (.there rfl (.there rfl (.there rfl .here))))))))) (.cons (.there rfl (.there rfl (.there rfl (.there rfl (.there rfl (.there rfl (.there rfl (.there rfl (.there rfl (.there rfl .here)))))))))) .nil))) ?_
  refine JE.seq ?_
  refine JC.block ?_
  refine JC.loop (α := Nat) (fun z => [(7, .int .i64 0), (2, .bool false), (0, .pointer (some ⟨bb, 0, none⟩))]) (fun z w => Blk w bb 46 (bookCells v1 v2 s) ∧ Ch No w0 w) (fun z => 0) 0 ⟨B, hK⟩ (.conse .here (rfl) (.conse (.there rfl .here) (rfl) (.cons (.there rfl (.there rfl .here)) .nil))) ?_
  rintro z w4 m5 ⟨B, hK⟩ hmu6
  show JC _ _ _ _ _ [(7, .int .i64 0), (2, .bool false), (0, .pointer (some ⟨bb, 0, none⟩))] _
  refine JC.seq ?_
  refine JC.seq ?_
  refine JC.region ?_
  refine JL.val rfl (Run.move (.tmp .here)) ?_
  refine JL.val rfl (Run.move (.tmp (.there rfl (.there rfl (.there rfl .here))))) ?_
  refine JL.val rfl (Run.nilPtr (.tmp .here)) ?_
  refine JL.val rfl (Run.fieldAddr (ft := 38) (foff := 33) (off := 33) @Try.underlying46 (by rfl) (@Try.sizeOf38 _) rfl rfl (.tmp .here)) ?_
  refine JL.val rfl (Run.loadB (@Try.isAgg38 _) (.tmp .here) B (by rfl)) ?_
  refine JL.val rfl (Run.len @Try.underlying38 (.tmp .here)) ?_
  refine JL.val rfl (Run.lss (.tmp (.there rfl (.there rfl (.there rfl (.there rfl (.there rfl .here)))))) (.tmp .here)) ?_
  refine JL.nil ?_
  refine JE.seq ?_
  refine JC.condF (.tmp .here) (by decide) ?_
  refine JC.exit ?_
  refine JE.exit_seq ?_
  refine JE.exit_seq ?_
  refine JE.exit_here ?_
  refine JE.seq ?_
  refine JC.seq ?_
  refine JC.seq ?_
  refine JC.region ?_
  refine JL.val rfl (Run.assign .const) ?_
  refine JL.nil ?_
  refine JE.keep (L := _) (.cons .here (.cons (.there rfl (.there rfl (.there rfl (.there rfl (.there rfl (.there rfl (.there rfl (.there rfl (.there rfl .here))))))))) (.cons (.there rfl (.there rfl (.there rfl (.there rfl (.there rfl (.there rfl (.there rfl (.there rfl (.there rfl (.there rfl .here)))))))))) .nil))) ?_
  refine JE.seq ?_
  refine JC.block ?_
  refine JC.loop (α := Nat) (fun z => [(11, .int .i64 0), (2, .bool false), (0, .pointer (some ⟨bb, 0, none⟩))]) (fun z w => Blk w bb 46 (bookCells v1 v2 s) ∧ Ch No w0 w) (fun z => 0) 0 ⟨B, hK⟩ (.conse .here (rfl) (.conse (.there rfl .here) (rfl) (.cons (.there rfl (.there rfl .here)) .nil))) ?_
  rintro z w7 m8 ⟨B, hK⟩ hmu9
  show JC _ _ _ _ _ [(11, .int .i64 0), (2, .bool false), (0, .pointer (some ⟨bb, 0, none⟩))] _
  refine JC.seq ?_
  refine JC.seq ?_
  refine JC.region ?_
  refine JL.val rfl (Run.move (.tmp .here)) ?_
  refine JL.val rfl (Run.move (.tmp (.there rfl (.there rfl (.there rfl .here))))) ?_
  refine JL.val rfl (Run.nilPtr (.tmp .here)) ?_
  refine JL.val rfl (Run.fieldAddr (ft := 39) (foff := 36) (off := 36) @Try.underlying46 (by rfl) (@Try.sizeOf39 _) rfl rfl (.tmp .here)) ?_
  refine JL.val rfl (Run.loadB (@Try.isAgg39 _) (.tmp .here) B (by rfl)) ?_
  refine JL.val rfl (Run.len @Try.underlying39 (.tmp .here)) ?_
  refine JL.val rfl (Run.lss (.tmp (.there rfl (.there rfl (.there rfl (.there rfl (.there rfl .here)))))) (.tmp .here)) ?_
  refine JL.nil ?_
  refine JE.seq ?_
  refine JC.condF (.tmp .here) (by decide) ?_
  refine JC.exit ?_
  refine JE.exit_seq ?_
  refine JE.exit_seq ?_
  refine JE.exit_here ?_
  refine JE.seq ?_
  refine JC.seq ?_
  refine JC.seq ?_
  refine JC.region ?_
  refine JL.val rfl (Run.assign .const) ?_
  refine JL.nil ?_
  refine JE.keep (L := _) (.cons .here (.cons (.there rfl (.there rfl (.there rfl (.there rfl (.there rfl (.there rfl (.there rfl (.there rfl (.there rfl .here))))))))) (.cons (.there rfl (.there rfl (.there rfl (.there rfl (.there rfl (.there rfl (.there rfl (.there rfl (.there rfl (.there rfl .here)))))))))) .nil))) ?_
  refine JE.seq ?_
  refine JC.block ?_
  refine JC.loop (α := Nat) (fun z => [(15, .int .i64 0), (2, .bool false), (0, .pointer (some ⟨bb, 0, none⟩))]) (fun z w => Blk w bb 46 (bookCells v1 v2 s) ∧ Ch No w0 w) (fun z => 0) 0 ⟨B, hK⟩ (.conse .here (rfl) (.conse (.there rfl .here) (rfl) (.cons (.there rfl (.there rfl .here)) .nil))) ?_
  rintro z w10 m11 ⟨B, hK⟩ hmu12
  show JC _ _ _ _ _ [(15, .int .i64 0), (2, .bool false), (0, .pointer (some ⟨bb, 0, none⟩))] _
  refine JC.seq ?_
  refine JC.seq ?_
  refine JC.region ?_
  refine JL.val rfl (Run.move (.tmp .here)) ?_
  refine JL.val rfl (Run.move (.tmp (.there rfl (.there rfl (.there rfl .here))))) ?_
  refine JL.val rfl (Run.nilPtr (.tmp .here)) ?_
  refine JL.val rfl (Run.fieldAddr (ft := 40) (foff := 39) (off := 39) @Try.underlying46 (by rfl) (@Try.sizeOf40 _) rfl rfl (.tmp .here)) ?_
  refine JL.val rfl (Run.loadB (@Try.isAgg40 _) (.tmp .here) B (by rfl)) ?_
  refine JL.val rfl (Run.len @Try.underlying40 (.tmp .here)) ?_
  refine JL.val rfl (Run.lss (.tmp (.there rfl (.there rfl (.there rfl (.there rfl (.there rfl .here)))))) (.tmp .here)) ?_
  refine JL.nil ?_
  refine JE.seq ?_
  refine JC.condF (.tmp .here) (by decide) ?_
  refine JC.exit ?_
  refine JE.exit_seq ?_
  refine JE.exit_seq ?_
  refine JE.exit_here ?_
  refine JE.seq ?_
  refine JC.seq ?_
  refine JC.region ?_
  refine JL.val rfl (Run.assign .const) ?_
  refine JL.nil ?_
  refine JE.keep (L := _) (.cons .here .nil) ?_
  refine JE.seq ?_
  refine JC.ret ?_
  refine JE.ret1 @Try.results38 .here ?_
  exact ⟨rfl, hK⟩

set_option maxHeartbeats 4000000 in
theorem sent_any {bb : Nat} {v1 v2 : Value} {s : BookS} (w0 : World) (B : Blk w0 bb 46 (bookCells v1 v2 s)) :
    Calls Try.prog 39 #[.pointer (some ⟨bb, 0, none⟩)] w0 fun e w' => e = .returned (.bool true) ∧ Ch No w0 w' := by
  have hK : Ch No w0 w0 := Ch.refl w0
  refine calls @Try.func39 rfl @Try.ntmps39 rfl ?_
  show JC _ _ _ _ _ [(0, .pointer (some ⟨bb, 0, none⟩))] _
  refine JC.seq ?_
  refine JC.region ?_
  refine JL.val rfl (Run.assign .const) ?_
  refine JL.nil ?_
  refine JE.seq ?_
  refine JC.seq ?_
  refine JC.seq ?_
  refine JC.region ?_
  refine JL.val rfl (Run.assign .const) ?_
  refine JL.nil ?_
  refine JE.seq ?_
  refine JC.block ?_
  refine JC.loop (α := Nat) (fun z => [(3, .int .i64 0), (2, .bool false), (0, .pointer (some ⟨bb, 0, none⟩))]) (fun z w => Blk w bb 46 (bookCells v1 v2 s) ∧ Ch No w0 w) (fun z => 0) 0 ⟨B, hK⟩ (.conse .here (rfl) (.conse (.there rfl .here) (rfl) (.cons (.there rfl (.there rfl .here)) .nil))) ?_
  rintro z w1 m2 ⟨B, hK⟩ hmu3
  show JC _ _ _ _ _ [(3, .int .i64 0), (2, .bool false), (0, .pointer (some ⟨bb, 0, none⟩))] _
  refine JC.seq ?_
  refine JC.seq ?_
  refine JC.region ?_
  refine JL.val rfl (Run.move (.tmp .here)) ?_
  refine JL.val rfl (Run.move (.tmp (.there rfl (.there rfl (.there rfl .here))))) ?_
  refine JL.val rfl (Run.nilPtr (.tmp .here)) ?_
  refine JL.val rfl (Run.fieldAddr (ft := 41) (foff := 42) (off := 42) @Try.underlying46 (by rfl) (@Try.sizeOf41 _) rfl rfl (.tmp .here)) ?_
  refine JL.val rfl (Run.loadB (@Try.isAgg41 _) (.tmp .here) B (by rfl)) ?_
  refine JL.val rfl (Run.len @Try.underlying41 (.tmp .here)) ?_
  refine JL.val rfl (Run.lss (.tmp (.there rfl (.there rfl (.there rfl (.there rfl (.there rfl .here)))))) (.tmp .here)) ?_
  refine JL.nil ?_
  refine JE.seq ?_
  refine JC.condF (.tmp .here) (by decide) ?_
  refine JC.exit ?_
  refine JE.exit_seq ?_
  refine JE.exit_seq ?_
  refine JE.exit_here ?_
  refine JE.seq ?_
  refine JC.seq ?_
  refine JC.seq ?_
  refine JC.region ?_
  refine JL.val rfl (Run.assign .const) ?_
  refine JL.nil ?_
  refine JE.keep (L := _) (.cons .here (.cons (.there rfl (.there rfl (.there rfl (.there rfl (.there rfl (.there rfl (.there rfl (.there rfl (.there rfl .here))))))))) (.cons (.there rfl (.there rfl (.there rfl (.there rfl (.there rfl (.there rfl (.there rfl (.there rfl (.there rfl (.there rfl .here)))))))))) .nil))) ?_
  refine JE.seq ?_
  refine JC.block ?_
  refine JC.loop (α := Nat) (fun z => [(7, .int .i64 0), (2, .bool false), (0, .pointer (some ⟨bb, 0, none⟩))]) (fun z w => Blk w bb 46 (bookCells v1 v2 s) ∧ Ch No w0 w) (fun z => 0) 0 ⟨B, hK⟩ (.conse .here (rfl) (.conse (.there rfl .here) (rfl) (.cons (.there rfl (.there rfl .here)) .nil))) ?_
  rintro z w4 m5 ⟨B, hK⟩ hmu6
  show JC _ _ _ _ _ [(7, .int .i64 0), (2, .bool false), (0, .pointer (some ⟨bb, 0, none⟩))] _
  refine JC.seq ?_
  refine JC.seq ?_
  refine JC.region ?_
  refine JL.val rfl (Run.move (.tmp .here)) ?_
  refine JL.val rfl (Run.move (.tmp (.there rfl (.there rfl (.there rfl .here))))) ?_
  refine JL.val rfl (Run.nilPtr (.tmp .here)) ?_
  refine JL.val rfl (Run.fieldAddr (ft := 42) (foff := 45) (off := 45) @Try.underlying46 (by rfl) (@Try.sizeOf42 _) rfl rfl (.tmp .here)) ?_
  refine JL.val rfl (Run.loadB (@Try.isAgg42 _) (.tmp .here) B (by rfl)) ?_
  refine JL.val rfl (Run.len @Try.underlying42 (.tmp .here)) ?_
  refine JL.val rfl (Run.lss (.tmp (.there rfl (.there rfl (.there rfl (.there rfl (.there rfl .here)))))) (.tmp .here)) ?_
  refine JL.nil ?_
  refine JE.seq ?_
  refine JC.condF (.tmp .here) (by decide) ?_
  refine JC.exit ?_
  refine JE.exit_seq ?_
  refine JE.exit_seq ?_
  refine JE.exit_here ?_
  refine JE.seq ?_
  refine JC.seq ?_
  refine JC.seq ?_
  refine JC.region ?_
  refine JL.val rfl (Run.assign .const) ?_
  refine JL.nil ?_
  refine JE.keep (L := _) (.cons .here (.cons (.there rfl (.there rfl (.there rfl (.there rfl (.there rfl (.there rfl (.there rfl (.there rfl (.there rfl .here))))))))) (.cons (.there rfl (.there rfl (.there rfl (.there rfl (.there rfl (.there rfl (.there rfl (.there rfl (.there rfl (.there rfl .here)))))))))) .nil))) ?_
  refine JE.seq ?_
  refine JC.block ?_
  refine JC.loop (α := Nat) (fun z => [(11, .int .i64 0), (2, .bool false), (0, .pointer (some ⟨bb, 0, none⟩))]) (fun z w => Blk w bb 46 (bookCells v1 v2 s) ∧ Ch No w0 w) (fun z => 0) 0 ⟨B, hK⟩ (.conse .here (rfl) (.conse (.there rfl .here) (rfl) (.cons (.there rfl (.there rfl .here)) .nil))) ?_
  rintro z w7 m8 ⟨B, hK⟩ hmu9
  show JC _ _ _ _ _ [(11, .int .i64 0), (2, .bool false), (0, .pointer (some ⟨bb, 0, none⟩))] _
  refine JC.seq ?_
  refine JC.seq ?_
  refine JC.region ?_
  refine JL.val rfl (Run.move (.tmp .here)) ?_
  refine JL.val rfl (Run.move (.tmp (.there rfl (.there rfl (.there rfl .here))))) ?_
  refine JL.val rfl (Run.nilPtr (.tmp .here)) ?_
  refine JL.val rfl (Run.fieldAddr (ft := 43) (foff := 48) (off := 48) @Try.underlying46 (by rfl) (@Try.sizeOf43 _) rfl rfl (.tmp .here)) ?_
  refine JL.val rfl (Run.loadB (@Try.isAgg43 _) (.tmp .here) B (by rfl)) ?_
  refine JL.val rfl (Run.len @Try.underlying43 (.tmp .here)) ?_
  refine JL.val rfl (Run.lss (.tmp (.there rfl (.there rfl (.there rfl (.there rfl (.there rfl .here)))))) (.tmp .here)) ?_
  refine JL.nil ?_
  refine JE.seq ?_
  refine JC.condF (.tmp .here) (by decide) ?_
  refine JC.exit ?_
  refine JE.exit_seq ?_
  refine JE.exit_seq ?_
  refine JE.exit_here ?_
  refine JE.seq ?_
  refine JC.seq ?_
  refine JC.seq ?_
  refine JC.region ?_
  refine JL.val rfl (Run.assign .const) ?_
  refine JL.nil ?_
  refine JE.keep (L := _) (.cons .here (.cons (.there rfl (.there rfl (.there rfl (.there rfl (.there rfl (.there rfl (.there rfl (.there rfl (.there rfl .here))))))))) (.cons (.there rfl (.there rfl (.there rfl (.there rfl (.there rfl (.there rfl (.there rfl (.there rfl (.there rfl (.there rfl .here)))))))))) .nil))) ?_
  refine JE.seq ?_
  refine JC.block ?_
  refine JC.loop (α := Nat) (fun z => [(15, .int .i64 0), (2, .bool false), (0, .pointer (some ⟨bb, 0, none⟩))]) (fun z w => Blk w bb 46 (bookCells v1 v2 s) ∧ Ch No w0 w) (fun z => 0) 0 ⟨B, hK⟩ (.conse .here (rfl) (.conse (.there rfl .here) (rfl) (.cons (.there rfl (.there rfl .here)) .nil))) ?_
  rintro z w10 m11 ⟨B, hK⟩ hmu12
  show JC _ _ _ _ _ [(15, .int .i64 0), (2, .bool false), (0, .pointer (some ⟨bb, 0, none⟩))] _
  refine JC.seq ?_
  refine JC.seq ?_
  refine JC.region ?_
  refine JL.val rfl (Run.move (.tmp .here)) ?_
  refine JL.val rfl (Run.move (.tmp (.there rfl (.there rfl (.there rfl .here))))) ?_
  refine JL.val rfl (Run.nilPtr (.tmp .here)) ?_
  refine JL.val rfl (Run.fieldAddr (ft := 44) (foff := 51) (off := 51) @Try.underlying46 (by rfl) (@Try.sizeOf44 _) rfl rfl (.tmp .here)) ?_
  refine JL.val rfl (Run.loadB (@Try.isAgg44 _) (.tmp .here) B (by rfl)) ?_
  refine JL.val rfl (Run.len @Try.underlying44 (.tmp .here)) ?_
  refine JL.val rfl (Run.lss (.tmp (.there rfl (.there rfl (.there rfl (.there rfl (.there rfl .here)))))) (.tmp .here)) ?_
  refine JL.nil ?_
  refine JE.seq ?_
  refine JC.condF (.tmp .here) (by decide) ?_
  refine JC.exit ?_
  refine JE.exit_seq ?_
  refine JE.exit_seq ?_
  refine JE.exit_here ?_
  refine JE.seq ?_
  refine JC.seq ?_
  refine JC.region ?_
  refine JL.val rfl (Run.assign .const) ?_
  refine JL.nil ?_
  refine JE.keep (L := _) (.cons .here .nil) ?_
  refine JE.seq ?_
  refine JC.ret ?_
  refine JE.ret1 @Try.results39 .here ?_
  exact ⟨rfl, hK⟩

set_option maxHeartbeats 4000000 in
theorem plain_any {ρ : Nat → Role} {bb : Nat} {v1 v2 : Value} {s : BookS} (w0 : World) (C : Core w0 ρ bb v1 v2 s.L s.L s) (K : All w0 ρ s.L) (hM : ∀ e ∈ s.L, e.2 ≤ 274877906944) (hLn : s.L.length ≤ 2748779069440) :
    Calls Try.prog 35 #[.pointer (some ⟨bb, 0, none⟩)] w0 fun e w' => e = .returned (.bool true) ∧ Ch No w0 w' := by
  have hK : Ch No w0 w0 := Ch.refl w0
  obtain ⟨a1, c1, rfl⟩ := owns_form C.o1
  obtain ⟨a2, c2, rfl⟩ := owns_form C.o2
  have hL := C.o1.1
  refine calls @Try.func35 rfl @Try.ntmps35 rfl ?_
  show JC _ _ _ _ _ [(0, .pointer (some ⟨bb, 0, none⟩))] _
  refine JC.seq ?_
  refine JC.region ?_
  refine JL.val rfl (Run.assign .const) ?_
  refine JL.nil ?_
  refine JE.seq ?_
  refine JC.seq ?_
  refine JC.seq ?_
  refine JC.region ?_
  refine JL.val rfl (Run.assign .const) ?_
  refine JL.nil ?_
  refine JE.seq ?_
  refine JC.block ?_
  refine JC.loop (α := Nat) (fun i => [(0, .pointer (some ⟨bb, 0, none⟩)), (3, .int .i64 (i : Int))]) (fun i w => i ≤ s.L.length ∧ Core w ρ bb (.slice a1 s.L.length c1) (.slice a2 s.L.length c2) s.L s.L s ∧ All w ρ s.L ∧ Ch No w0 w) (fun i => s.L.length - i) 0 ⟨Nat.zero_le _, C, K, hK⟩ (.cons (.there rfl (.there rfl .here)) (.conse .here (rfl) .nil)) ?_
  rintro i w1 m2 ⟨hi, C, K, hK⟩ hmu3
  show JC _ _ _ _ _ [(0, .pointer (some ⟨bb, 0, none⟩)), (3, .int .i64 (i : Int))] _
  refine JC.seq ?_
  refine JC.seq ?_
  refine JC.region ?_
  refine JL.val rfl (Run.move (.tmp (.there rfl .here))) ?_
  refine JL.val rfl (Run.move (.tmp (.there rfl .here))) ?_
  refine JL.val rfl (Run.nilPtr (.tmp .here)) ?_
  refine JL.val rfl (Run.fieldAddr (ft := 23) (foff := 0) (off := 0) @Try.underlying46 (by rfl) (@Try.sizeOf23 _) rfl rfl (.tmp .here)) ?_
  refine JL.val rfl (Run.loadB (@Try.isAgg23 _) (.tmp .here) (C.B) (by rfl)) ?_
  refine JL.val rfl (Run.len @Try.underlying23 (.tmp .here)) ?_
  refine JL.val rfl (Run.lss (.tmp (.there rfl (.there rfl (.there rfl (.there rfl (.there rfl .here)))))) (.tmp .here)) ?_
  refine JL.nil ?_
  refine JE.seq ?_
  refine JC.cond (.tmp .here) (fun hlt => ?_) (fun hlt => ?_)
  · have hlt := of_decide_eq_true hlt
    have hil : i < s.L.length := by omega
    obtain ⟨b1, rfl, -⟩ := owns_pos C.o1 (by omega)
    obtain ⟨b2, rfl, -⟩ := owns_pos C.o2 (by omega)
    obtain ⟨e, he⟩ : ∃ e, e = s.L[i] := ⟨_, rfl⟩
    have hem : e ∈ s.L := by rw [he]; exact List.getElem_mem hil
    have hm := hM e hem
    obtain ⟨ax, cx, hf⟩ := kept_form (K e hem)
    obtain ⟨n, hn⟩ : ∃ n, n = elen e.1 := ⟨_, rfl⟩
    rw [← hn] at hf
    obtain ⟨x, m⟩ := e
    simp only at hf hm
    subst hf
    have hi1 : (s.L.map (·.1))[i]? = some (.slice ax n cx) := by rw [List.getElem?_map, List.getElem?_eq_getElem hil, ← he]; rfl
    have hi2 : (s.L.map fun e => Value.int .i64 (e.2 : Int))[i]? = some (.int .i64 (m : Int)) := by rw [List.getElem?_map, List.getElem?_eq_getElem hil, ← he]; rfl
    have hnl := kept_len (K _ hem)
    refine JC.skip ?_
    refine JE.seq ?_
    refine JC.seq ?_
    refine JC.block ?_
    refine JC.seq ?_
    refine JC.region ?_
    refine JL.val rfl (Run.assign .const) ?_
    refine JL.nil ?_
    refine JE.seq ?_
    refine JC.block ?_
    refine JC.loop (α := Nat) (fun k => [(0, .pointer (some ⟨bb, 0, none⟩)), (3, .int .i64 (i : Int)), (4, .int .i64 (k : Int))]) (fun k w => k ≤ n ∧ Core w ρ bb (.slice (some ⟨b1, 0, none⟩) s.L.length c1) (.slice (some ⟨b2, 0, none⟩) s.L.length c2) s.L s.L s ∧ All w ρ s.L ∧ Ch No w0 w) (fun k => n - k) 0 ⟨Nat.zero_le _, C, K, hK⟩ (.cons (.there rfl (.there rfl (.there rfl (.there rfl (.there rfl (.there rfl (.there rfl (.there rfl .here)))))))) (.cons (.there rfl (.there rfl (.there rfl (.there rfl (.there rfl (.there rfl (.there rfl (.there rfl (.there rfl .here))))))))) (.conse .here (rfl) .nil))) ?_
    rintro k w7 m8 ⟨hk, C, K, hK⟩ hmu9
    show JC _ _ _ _ _ [(0, .pointer (some ⟨bb, 0, none⟩)), (3, .int .i64 (i : Int)), (4, .int .i64 (k : Int))] _
    refine JC.seq ?_
    refine JC.seq ?_
    refine JC.region ?_
    refine JL.val rfl (Run.move (.tmp (.there rfl (.there rfl .here)))) ?_
    refine JL.val rfl (Run.move (.tmp (.there rfl .here))) ?_
    refine JL.val rfl (Run.nilPtr (.tmp .here)) ?_
    refine JL.val rfl (Run.fieldAddr (ft := 23) (foff := 0) (off := 0) @Try.underlying46 (by rfl) (@Try.sizeOf23 _) rfl rfl (.tmp .here)) ?_
    refine JL.val rfl (Run.loadB (@Try.isAgg23 _) (.tmp .here) (C.B) (by rfl)) ?_
    refine JL.val rfl (Run.move (.tmp (.there rfl (.there rfl (.there rfl (.there rfl (.there rfl (.there rfl .here)))))))) ?_
    refine JL.val rfl (Run.indexAddr (m := i) @Try.underlying23 (@Try.sizeOf53 _) (.tmp (.there rfl .here)) (.tmp .here) (rfl) (by omega) rfl) ?_
    refine JL.val rfl (Run.load (@Try.isAgg53 _) (.tmp .here) (by first | exact (ocell C.o1 hi1))) ?_
    refine JL.val rfl (Run.len @Try.underlying53 (.tmp .here)) ?_
    refine JL.val rfl (Run.lss (.tmp (.there rfl (.there rfl (.there rfl (.there rfl (.there rfl (.there rfl (.there rfl (.there rfl .here))))))))) (.tmp .here)) ?_
    refine JL.nil ?_
    refine JE.seq ?_
    refine JC.cond (.tmp .here) (fun hkn0 => ?_) (fun hkn0 => ?_)
    · have hkn : k < n := by have := of_decide_eq_true hkn0; omega
      obtain ⟨xb, rfl⟩ := kept_pos (K _ hem) (by omega)
      refine JC.skip ?_
      refine JE.seq ?_
      refine JC.seq ?_
      refine JC.block ?_
      refine JC.seq ?_
      refine JC.stillc mixed (by kernel_rfl) ?_
      intro w10 hd11
      replace C := C.no hd11
      replace K := K.no hd11
      replace hK := hK.no hd11
      refine JS.val rfl (Run.move (.tmp (.there rfl (.there rfl (.there rfl (.there rfl (.there rfl (.there rfl (.there rfl (.there rfl (.there rfl (.there rfl .here)))))))))))) ?_
      refine JS.val rfl (Run.nilPtr (.tmp .here)) ?_
      refine JS.val rfl (Run.fieldAddr (ft := 23) (foff := 0) (off := 0) @Try.underlying46 (by rfl) (@Try.sizeOf23 _) rfl rfl (.tmp .here)) ?_
      refine JS.val rfl (Run.loadB (@Try.isAgg23 _) (.tmp .here) (C.B) (by rfl)) ?_
      refine JS.val rfl (Run.move (.tmp (.there rfl (.there rfl (.there rfl (.there rfl (.there rfl (.there rfl (.there rfl (.there rfl (.there rfl (.there rfl (.there rfl (.there rfl (.there rfl (.there rfl (.there rfl .here))))))))))))))))) ?_
      refine JS.val rfl (Run.indexAddr (m := i) @Try.underlying23 (@Try.sizeOf53 _) (.tmp (.there rfl .here)) (.tmp .here) (rfl) (by omega) rfl) ?_
      refine JS.val rfl (Run.load (@Try.isAgg53 _) (.tmp .here) (by first | exact (ocell C.o1 hi1))) ?_
      refine JS.val rfl (Run.move (.tmp (.there rfl (.there rfl (.there rfl (.there rfl (.there rfl (.there rfl (.there rfl (.there rfl (.there rfl (.there rfl (.there rfl (.there rfl (.there rfl (.there rfl (.there rfl (.there rfl (.there rfl (.there rfl (.there rfl .here))))))))))))))))))))) ?_
      refine JS.val rfl (Run.indexAddr (m := k) @Try.underlying53 (@Try.sizeOf5 _) (.tmp (.there rfl .here)) (.tmp .here) (rfl) (by omega) rfl) ?_
      refine JS.val rfl (Run.load (@Try.isAgg5 _) (.tmp .here) (by first | exact (kept_cell (K _ hem) hkn))) ?_
      refine JS.val rfl (Run.move (.tmp (.there rfl (.there rfl (.there rfl (.there rfl (.there rfl (.there rfl (.there rfl (.there rfl (.there rfl (.there rfl (.there rfl (.there rfl (.there rfl (.there rfl (.there rfl (.there rfl (.there rfl (.there rfl (.there rfl (.there rfl .here)))))))))))))))))))))) ?_
      refine JS.val rfl (Run.nilPtr (.tmp .here)) ?_
      refine JS.val rfl (Run.fieldAddr (ft := 27) (foff := 1) (off := 1) @Try.underlying46 (by rfl) (@Try.sizeOf27 _) rfl rfl (.tmp .here)) ?_
      refine JS.val rfl (Run.loadB (@Try.isAgg27 _) (.tmp .here) (C.B) (by rfl)) ?_
      refine JS.val rfl (Run.move (.tmp (.there rfl (.there rfl (.there rfl (.there rfl (.there rfl (.there rfl (.there rfl (.there rfl (.there rfl (.there rfl (.there rfl (.there rfl (.there rfl (.there rfl (.there rfl (.there rfl (.there rfl (.there rfl (.there rfl (.there rfl (.there rfl (.there rfl (.there rfl (.there rfl (.there rfl .here))))))))))))))))))))))))))) ?_
      refine JS.val rfl (Run.indexAddr (m := i) @Try.underlying27 (@Try.sizeOf3 _) (.tmp (.there rfl .here)) (.tmp .here) (rfl) (by omega) rfl) ?_
      refine JS.val rfl (Run.load (@Try.isAgg3 _) (.tmp .here) (by first | exact (ocell C.o2 hi2))) ?_
      refine JS.val rfl (Run.move (.tmp (.there rfl (.there rfl (.there rfl (.there rfl (.there rfl (.there rfl (.there rfl (.there rfl (.there rfl (.there rfl (.there rfl (.there rfl (.there rfl (.there rfl (.there rfl (.there rfl (.there rfl (.there rfl (.there rfl (.there rfl (.there rfl (.there rfl (.there rfl (.there rfl (.there rfl (.there rfl (.there rfl (.there rfl (.there rfl .here))))))))))))))))))))))))))))))) ?_
      refine JS.call rfl (Run.call @Try.call33 (.cons (.tmp (.there rfl .here)) (.cons (.tmp .here) .nil))) (at_any m k hm (by omega) _) ?_
      refine JS.val rfl (Run.neq (.tmp (.there rfl (.there rfl (.there rfl (.there rfl (.there rfl (.there rfl (.there rfl (.there rfl (.there rfl .here)))))))))) (.tmp .here)) ?_
      refine JS.nil ?_
      refine JE.seq ?_
      refine JC.condF (.tmp .here) (by simp) ?_
      refine JC.skip ?_
      refine JE.blk ?_
      refine JE.seq ?_
      refine JC.region ?_
      refine JL.val rfl (Run.move (.tmp (.there rfl (.there rfl (.there rfl (.there rfl (.there rfl (.there rfl (.there rfl (.there rfl (.there rfl (.there rfl (.there rfl (.there rfl (.there rfl (.there rfl (.there rfl (.there rfl (.there rfl (.there rfl (.there rfl (.there rfl (.there rfl (.there rfl (.there rfl (.there rfl (.there rfl (.there rfl (.there rfl (.there rfl (.there rfl (.there rfl (.there rfl (.there rfl .here)))))))))))))))))))))))))))))))))) ?_
      refine JL.val rfl (Run.add (.tmp .here) .const (wrap_i64 (by omega))) ?_
      refine JL.val rfl (Run.assign (.tmp .here)) ?_
      refine JL.nil ?_
      exact JE.again (k + 1) (.cons (.there rfl (.there rfl (.there rfl (.there rfl (.there rfl (.there rfl (.there rfl (.there rfl (.there rfl (.there rfl (.there rfl (.there rfl (.there rfl (.there rfl (.there rfl (.there rfl (.there rfl (.there rfl (.there rfl (.there rfl (.there rfl (.there rfl (.there rfl (.there rfl (.there rfl (.there rfl (.there rfl (.there rfl (.there rfl (.there rfl (.there rfl (.there rfl (.there rfl .here))))))))))))))))))))))))))))))))) (.cons (.there rfl (.there rfl (.there rfl (.there rfl (.there rfl (.there rfl (.there rfl (.there rfl (.there rfl (.there rfl (.there rfl (.there rfl (.there rfl (.there rfl (.there rfl (.there rfl (.there rfl (.there rfl (.there rfl (.there rfl (.there rfl (.there rfl (.there rfl (.there rfl (.there rfl (.there rfl (.there rfl (.there rfl (.there rfl (.there rfl (.there rfl (.there rfl (.there rfl (.there rfl .here)))))))))))))))))))))))))))))))))) (.conse .here (rfl) .nil))) (⟨by omega, C, K, hK⟩) (by simp only [hmu9]; omega)
    · have hkn := of_decide_eq_false hkn0
      refine JC.exit ?_
      refine JE.exit_seq ?_
      refine JE.exit_seq ?_
      refine JE.exit_here ?_
      refine JE.blk ?_
      refine JE.seq ?_
      refine JC.region ?_
      refine JL.val rfl (Run.move (.tmp (.there rfl (.there rfl (.there rfl (.there rfl (.there rfl (.there rfl (.there rfl (.there rfl (.there rfl (.there rfl (.there rfl .here))))))))))))) ?_
      refine JL.val rfl (Run.add (.tmp .here) .const (wrap_i64 (by omega))) ?_
      refine JL.val rfl (Run.assign (.tmp .here)) ?_
      refine JL.nil ?_
      exact JE.again (i + 1) (.cons (.there rfl (.there rfl (.there rfl (.there rfl (.there rfl (.there rfl (.there rfl (.there rfl (.there rfl (.there rfl (.there rfl (.there rfl (.there rfl .here))))))))))))) (.conse .here (rfl) .nil)) (⟨by omega, C, K, hK⟩) (by simp only [hmu3]; omega)
  · have hlt := of_decide_eq_false hlt
    refine JC.exit ?_
    refine JE.exit_seq ?_
    refine JE.exit_seq ?_
    refine JE.exit_here ?_
    refine JE.seq ?_
    refine JC.seq ?_
    refine JC.seq ?_
    refine JC.region ?_
    refine JL.val rfl (Run.assign .const) ?_
    refine JL.nil ?_
    refine JE.keep (L := _) (.cons .here (.cons (.there rfl (.there rfl (.there rfl (.there rfl (.there rfl (.there rfl (.there rfl (.there rfl .here)))))))) .nil)) ?_
    refine JE.seq ?_
    refine JC.block ?_
    refine JC.loop (α := Nat) (fun z => [(5, .int .i64 0), (0, .pointer (some ⟨bb, 0, none⟩))]) (fun z w => Core w ρ bb (.slice a1 s.L.length c1) (.slice a2 s.L.length c2) s.L s.L s ∧ All w ρ s.L ∧ Ch No w0 w) (fun z => 0) 0 ⟨C, K, hK⟩ (.conse .here (rfl) (.cons (.there rfl .here) .nil)) ?_
    rintro z w4 m5 ⟨C, K, hK⟩ hmu6
    show JC _ _ _ _ _ [(5, .int .i64 0), (0, .pointer (some ⟨bb, 0, none⟩))] _
    refine JC.seq ?_
    refine JC.seq ?_
    refine JC.region ?_
    refine JL.val rfl (Run.move (.tmp .here)) ?_
    refine JL.val rfl (Run.move (.tmp (.there rfl (.there rfl .here)))) ?_
    refine JL.val rfl (Run.nilPtr (.tmp .here)) ?_
    refine JL.val rfl (Run.fieldAddr (ft := 28) (foff := 3) (off := 3) @Try.underlying46 (by rfl) (@Try.sizeOf28 _) rfl rfl (.tmp .here)) ?_
    refine JL.val rfl (Run.loadB (@Try.isAgg28 _) (.tmp .here) (C.B) (by rfl)) ?_
    refine JL.val rfl (Run.len @Try.underlying28 (.tmp .here)) ?_
    refine JL.val rfl (Run.lss (.tmp (.there rfl (.there rfl (.there rfl (.there rfl (.there rfl .here)))))) (.tmp .here)) ?_
    refine JL.nil ?_
    refine JE.seq ?_
    refine JC.condF (.tmp .here) (by decide) ?_
    refine JC.exit ?_
    refine JE.exit_seq ?_
    refine JE.exit_seq ?_
    refine JE.exit_here ?_
    refine JE.seq ?_
    refine JC.seq ?_
    refine JC.region ?_
    refine JL.val rfl (Run.assign .const) ?_
    refine JL.nil ?_
    refine JE.keep (L := _) (.cons .here .nil) ?_
    refine JE.seq ?_
    refine JC.ret ?_
    refine JE.ret1 @Try.results35 .here ?_
    exact ⟨rfl, hK⟩

set_option maxHeartbeats 4000000 in
theorem holds_any {ρ : Nat → Role} {bb : Nat} {v1 v2 : Value} {s : BookS} (w0 : World) (C : Core w0 ρ bb v1 v2 s.L s.L s) (K : All w0 ρ s.L) (hM : ∀ e ∈ s.L, e.2 ≤ 274877906944) (hLn : s.L.length ≤ 2748779069440) :
    Calls Try.prog 31 #[.pointer (some ⟨bb, 0, none⟩)] w0 fun e w' => e = .returned (.bool true) ∧ Ch No w0 w' := by
  have hK : Ch No w0 w0 := Ch.refl w0
  refine calls @Try.func31 rfl @Try.ntmps31 rfl ?_
  show JC _ _ _ _ _ [(0, .pointer (some ⟨bb, 0, none⟩))] _
  refine JC.seq ?_
  refine JC.region ?_
  refine JL.val rfl (Run.assign .const) ?_
  refine JL.nil ?_
  refine JE.seq ?_
  refine JC.seq ?_
  refine JC.region ?_
  refine JL.val rfl (Run.move (.tmp (.there rfl .here))) ?_
  refine JL.call rfl (Run.call @Try.call35 (.cons (.tmp .here) .nil)) (plain_any _ C K hM hLn) ?_
  rintro e w1 ⟨rfl, hc1⟩
  refine JRet.ret ?_
  replace C := C.no hc1
  replace K := K.no hc1
  replace hK := hK.no hc1
  refine JL.val rfl (Run.move (.tmp .here)) ?_
  refine JL.gyesb (oj := _) (by rfl) (by rfl) .here rfl ?_
  refine JL.val rfl (Run.move (.tmp (.there rfl (.there rfl (.there rfl (.there rfl .here)))))) ?_
  refine JL.gyesb (oj := _) (by rfl) (by rfl) (.there rfl .here) rfl ?_
  refine JL.call rfl (Run.call @Try.call36 (.cons (.tmp .here) .nil)) (kept_any _ C.B) ?_
  rintro e w2 ⟨rfl, hc2⟩
  refine JRet.ret ?_
  replace C := C.no hc2
  replace K := K.no hc2
  replace hK := hK.no hc2
  refine JL.val rfl (Run.pickT (.tmp (.there rfl (.there rfl .here))) rfl (.tmp .here)) ?_
  refine JL.val rfl (Run.move (.tmp .here)) ?_
  refine JL.gyesb (oj := _) (by rfl) (by rfl) .here rfl ?_
  refine JL.val rfl (Run.move (.tmp (.there rfl (.there rfl (.there rfl (.there rfl (.there rfl (.there rfl (.there rfl (.there rfl .here)))))))))) ?_
  refine JL.gyesb (oj := _) (by rfl) (by rfl) (.there rfl .here) rfl ?_
  refine JL.call rfl (Run.call @Try.call37 (.cons (.tmp .here) .nil)) (told_any _ C.B) ?_
  rintro e w3 ⟨rfl, hc3⟩
  refine JRet.ret ?_
  replace C := C.no hc3
  replace K := K.no hc3
  replace hK := hK.no hc3
  refine JL.val rfl (Run.pickT (.tmp (.there rfl (.there rfl .here))) rfl (.tmp .here)) ?_
  refine JL.val rfl (Run.move (.tmp .here)) ?_
  refine JL.gyesb (oj := _) (by rfl) (by rfl) .here rfl ?_
  refine JL.val rfl (Run.move (.tmp (.there rfl (.there rfl (.there rfl (.there rfl (.there rfl (.there rfl (.there rfl (.there rfl (.there rfl (.there rfl (.there rfl (.there rfl .here)))))))))))))) ?_
  refine JL.gyesb (oj := _) (by rfl) (by rfl) (.there rfl .here) rfl ?_
  refine JL.call rfl (Run.call @Try.call38 (.cons (.tmp .here) .nil)) (held_any _ C.B) ?_
  rintro e w4 ⟨rfl, hc4⟩
  refine JRet.ret ?_
  replace C := C.no hc4
  replace K := K.no hc4
  replace hK := hK.no hc4
  refine JL.val rfl (Run.pickT (.tmp (.there rfl (.there rfl .here))) rfl (.tmp .here)) ?_
  refine JL.val rfl (Run.move (.tmp .here)) ?_
  refine JL.gyesb (oj := _) (by rfl) (by rfl) .here rfl ?_
  refine JL.val rfl (Run.move (.tmp (.there rfl (.there rfl (.there rfl (.there rfl (.there rfl (.there rfl (.there rfl (.there rfl (.there rfl (.there rfl (.there rfl (.there rfl (.there rfl (.there rfl (.there rfl (.there rfl .here)))))))))))))))))) ?_
  refine JL.gyesb (oj := _) (by rfl) (by rfl) (.there rfl .here) rfl ?_
  refine JL.call rfl (Run.call @Try.call39 (.cons (.tmp .here) .nil)) (sent_any _ C.B) ?_
  rintro e w5 ⟨rfl, hc5⟩
  refine JRet.ret ?_
  replace C := C.no hc5
  replace K := K.no hc5
  replace hK := hK.no hc5
  refine JL.val rfl (Run.pickT (.tmp (.there rfl (.there rfl .here))) rfl (.tmp .here)) ?_
  refine JL.val rfl (Run.assign (.tmp .here)) ?_
  refine JL.nil ?_
  refine JE.keep (L := _) (.cons .here .nil) ?_
  refine JE.seq ?_
  refine JC.ret ?_
  refine JE.ret1 @Try.results31 .here ?_
  exact ⟨rfl, hK⟩

end Go.Proofs.Ytggngmmbpkoooaa.Bk
