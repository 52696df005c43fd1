/- HeadBack answers true for every input that the law's type can hold, and what was there reads as it did. No condition. -/
import Derived.Test.YtggngmmbpkoooaaRows
import Derived.Test.YtggngmmbpkoooaaHdB
import Derived.Test.YtggngmmbpkoooaaEngRow
namespace Go.Proofs.Ytggngmmbpkoooaa
open Go Go.ChangeShapes Go.WideShapes Go.ChangeAt Go.RowKit Go.Deep Go.Joins Go.Proofs.Ytggngmmbpkoooaa.Eng Go.Proofs.Ytggngmmbpkoooaa.Hd
set_option linter.unusedVariables false
theorem open_rows {H : Type} {enc : TypeId × Value → H} {w : World} {fuel : Nat} {v : Value} {x : DataW H × List MemPlace}
    (h : DataW.trod enc Try.prog w 0 (fun _ => true) true fuel 23 [v] = some x) (hz : ∀ n ∈ x.1.weights Try.prog 23, n ≤ reachBytes) : ∃ a cap ls, v = .slice a ls.length cap ∧ BsAt w a ls := by
  rcases open_slice (P := Try.prog) Try.underlying23 h with ⟨hv, _⟩ | ⟨a, len, cap, m, n, D, Pl, hv, hb, hl, hm, hmm, hx, hi⟩
  · refine ⟨none, 0, [], by simpa using hv, by simp, fun i hi => by simp at hi⟩
  · have hv' : v = .slice (some a) len cap := by simpa using hv
    have hc1 : (Try.prog).cellsOf 53 = 1 := by kernel_rfl
    have hb1 : (Try.prog).bytesOf 5 = 1 := by kernel_rfl
    rw [hc1] at hi
    have hk : ∀ i, i < len → ∃ u l, w.cell? (a.add (i * 1)) = some u ∧ SlB w u l ∧ l.length ≤ reachBytes := by
      intro i hil
      obtain ⟨cs', hc, ht⟩ := hi i (by rw [hmm]; split <;> omega)
      obtain ⟨_, hcl, hat⟩ := World.cells?_some hc
      match cs', hcl with
      | [u], _ =>
        have hcell := hat 0 (by simp)
        obtain ⟨l, hs, hbd⟩ := open_bytesW (P := Try.prog) Try.underlying53 Try.underlying5 (by kernel_rfl) ht
        refine ⟨u, l, ?_, hs, hbd reachBytes hb1 (fun k hk => hz k ?_)⟩
        · simpa [Addr.add] using hcell
        · rw [hx]
          simp only [DataW.weights, Try.underlying23]
          exact List.mem_cons_of_mem _ (List.mem_append.2 (.inl (weights_mem (List.mem_map.2 ⟨i, List.mem_range.2 hil, rfl⟩) k hk)))
    let F : Nat → List UInt8 := fun i => if h : i < len then (hk i h).choose_spec.choose else []
    have hF : ∀ i, i < len → ∃ u, w.cell? (a.add (i * 1)) = some u ∧ SlB w u (F i) ∧ (F i).length ≤ reachBytes := by
      intro i hil
      have := (hk i hil).choose_spec.choose_spec
      simp only [F, hil, dif_pos]
      exact ⟨_, this⟩
    refine ⟨some a, cap, (List.range len).map F, by simp [hv'], ?_, fun i hi => ?_⟩
    · simp; unfold maxLen at hm; omega
    · have hil : i < len := by simpa using hi
      obtain ⟨u, c0, hs, hle⟩ := hF i hil
      have hsp : a.spot = none := by
        obtain ⟨u0, c0, -, -⟩ := hF 0 (by omega)
        rcases cell_add c0 with h | h
        · exact h
        · simp at h
      refine ⟨a.block, a.off, u, by cases a; simp_all, ?_, ?_, ?_⟩
      · rw [addr_eta a _ (.inl hsp)] at c0; exact c0
      · simpa only [List.getElem_map, List.getElem_range] using hs
      · simp only [List.getElem_map, List.getElem_range]; exact hle
set_option maxRecDepth 100000 in
theorem headBack_lifted (os : Os) (started : os.Started) (H : Type) (enc : TypeId × Value → H) :
    ReturnsInHanded {} Try.checked os 5 .any (Rows.headBackSpec.pre6 enc Try.prog Try.f5 Rows.headBackRow.domain false) (Rows.headBackSpec.post enc Try.prog Try.f5 false true false false) :=
  lift_trueS (C := Try.checked) own started (by kernel_rfl) Try.func5 Try.params5 rfl Try.underlying4 laidOut (by kernel_rfl) (of_decide_eq_true (by kernel_rfl))
    (ChangeSpec.witness6 (enc := enc) (C := Try.checked) false ⟨#[], #[.slice none 0 0], []⟩ 8 (by kernel_rfl) (by kernel_rfl) (by kernel_rfl) (by kernel_rfl)) (fun _ => rfl) rfl
    fun W b0 v d p hv h hz => by
      obtain ⟨a0, n0, c0, hvs⟩ := okWide_slice (P := Try.prog) Try.underlying23 hv
      subst hvs
      obtain ⟨fuel, hf⟩ := h
      obtain ⟨a, cap, ls, he, hA⟩ := open_rows (v := .slice a0 n0 c0) hf hz
      rw [he]
      exact back_any W hA
theorem headBack_holds : Rows.HeadBackSaid :=
  OpenClaim.holds_of_wide 5 Try.f5 rfl rfl rfl rfl rfl rfl rfl ⟨rfl, rfl, rfl, rfl, rfl⟩ rfl rfl rfl rfl rfl (by kernel_rfl) Try.func5 (by kernel_rfl)
    (of_decide_eq_true (by kernel_rfl)) (by unfold Func.isWrapper; first | (rw [if_pos (by decide +kernel)]; kernel_rfl) | (rw [if_neg (by decide +kernel)]; exact ⟨rfl, rfl⟩))
    (fun os started H enc _ => headBack_lifted os started H enc)
end Go.Proofs.Ytggngmmbpkoooaa
