/- HeadExact answers true for every input of bulk at most 1048576, and what was there reads as it did. No other condition. -/
import Derived.Test.YtggngmmbpkoooaaHdT
import Derived.Test.YtggngmmbpkoooaaHdU
import Derived.Test.YtggngmmbpkoooaaHdX
import Derived.Test.YtggngmmbpkoooaaEngRowC
namespace Go.Proofs.Ytggngmmbpkoooaa
open Go Go.ChangeShapes Go.WideShapes Go.ChangeAt Go.RowKit Go.Deep Go.Joins Go.Proofs.Ytggngmmbpkoooaa.Eng Go.Proofs.Ytggngmmbpkoooaa.Hd
set_option linter.unusedVariables false
theorem bulk_pos {H : Type} (d : DataW H) : 1 ≤ Rows.uptoBulk d := by
  cases d with
  | lit l => cases l <;> simp [Rows.uptoBulk]
  | _ => simp [Rows.uptoBulk]
theorem bulk_len {H : Type} : ∀ l : List (DataW H), l.length ≤ Rows.uptoBulkAll l
  | [] => by simp [Rows.uptoBulkAll]
  | d :: r => by have := bulk_pos d; have := bulk_len r; simp [Rows.uptoBulkAll]; omega
set_option maxRecDepth 100000 in
theorem headExact_lifted (os : Os) (started : os.Started) (H : Type) (enc : TypeId × Value → H) (F : Stop.Interp) :
    ReturnsInHanded {} Try.checked os 3 .any ((Rows.OpenSpec.upto Rows.headExactSpec).pre6 enc Try.prog Try.f3 Rows.headExactUptoRow.domain false) (((Rows.OpenSpec.upto Rows.headExactSpec).at F).post enc Try.prog Try.f3 false true false false) :=
  lift_trueC (C := Try.checked) (s := Rows.OpenSpec.upto Rows.headExactSpec) (k := Rows.uptoSmall) rfl own started (by kernel_rfl) Try.func3 Try.params3 rfl Try.underlying4 laidOut (by kernel_rfl) (of_decide_eq_true (by kernel_rfl))
    (OpenSpec.witness (enc := enc) (C := Try.checked) (s := Rows.OpenSpec.upto Rows.headExactSpec) (k := Rows.uptoSmall) rfl false ⟨#[], #[.agg #[.slice none 0 0, .slice none 0 0]], []⟩ 8 (by kernel_rfl) (by kernel_rfl) (by kernel_rfl)
      (x := ([.agg [.nil, .nil]], [], [])) (by kernel_rfl) (by kernel_rfl) (by kernel_rfl)) (fun _ => rfl) rfl
    fun W b0 v d p hv h hz hk => by
      obtain ⟨v0, v1, y0, y1, n, rfl, rfl, -, h0, h1⟩ := open_agg2 (P := Try.prog) Try.underlying25 (by kernel_rfl) (by kernel_rfl) hv h
      have hz1 : ∀ k ∈ y1.1.weights Try.prog 23, k ≤ reachBytes := fun k hk2 => hz k (by
        simp only [DataW.weights]
        rw [show (Try.checked).prog.underlying 25 = _ from Try.underlying25]
        simp only [DataW.weightsEach, List.map_cons, List.map_nil, List.append_nil, List.mem_append]
        exact .inr hk2)
      obtain ⟨a, cap, ars, hva, hA⟩ := open_args h0
      obtain ⟨b, capb, ls, hvb, hB⟩ := open_rows h1 hz1
      have hsm : ars.length ≤ 1048576 := by
        have hk' : Rows.uptoBulkAll [DataW.agg [y0.1, y1.1]] ≤ 1048576 := of_decide_eq_true hk
        rcases open_slice (P := Try.prog) Try.underlying22 h0 with ⟨hv2, _⟩ | ⟨a2, len, cap2, m, n2, D, Pl, hv2, hb, hl, hm, hmm, hx, hi⟩
        · rw [hva] at hv2; simp at hv2; simp [hv2]
        · rw [hva] at hv2
          simp at hv2
          rw [hx] at hk'
          have hbl := bulk_len ((List.range len).map D)
          simp [Rows.uptoBulkAll, Rows.uptoBulk] at hk' hbl
          omega
      subst hva; subst hvb
      exact Bk.exact_any W hA hB hsm
theorem headExact_holds : Rows.HeadExactUptoSaid :=
  OpenClaim.holds_of_cond 3 Try.f3 rfl rfl rfl rfl rfl rfl rfl ⟨rfl, rfl, rfl, rfl, rfl⟩ rfl rfl rfl rfl rfl (by kernel_rfl) Try.func3 (by kernel_rfl)
    (of_decide_eq_true (by kernel_rfl)) (by unfold Func.isWrapper; first | (rw [if_pos (by decide +kernel)]; kernel_rfl) | (rw [if_neg (by decide +kernel)]; exact ⟨rfl, rfl⟩))
    (fun os started H enc _ F => headExact_lifted os started H enc F)
end Go.Proofs.Ytggngmmbpkoooaa
