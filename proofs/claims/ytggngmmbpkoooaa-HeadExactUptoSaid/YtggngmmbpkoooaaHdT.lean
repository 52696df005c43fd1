/- HeadThere answers true for every input that the law's type can hold, and what was there reads as it did. No condition. -/
import Derived.Test.YtggngmmbpkoooaaRows
import Derived.Test.YtggngmmbpkoooaaHdL
import Derived.Test.YtggngmmbpkoooaaEngRow
namespace Go.Proofs.Ytggngmmbpkoooaa
open Go Go.ChangeShapes Go.WideShapes Go.ChangeAt Go.RowKit Go.Deep Go.Joins Go.Proofs.Ytggngmmbpkoooaa.Eng Go.Proofs.Ytggngmmbpkoooaa.Hd
set_option linter.unusedVariables false
section
variable {H : Type} {enc : TypeId × Value → H} {P : Program} {w : World} {base : Nat} {spare : Nat → Bool} {held : Bool}
theorem open_slice_fields {t e : TypeId} {fs : Array Field} {fuel : Nat} {cs : List Value} {x : DataW H × List MemPlace} (ht : P.underlying t = some (.slice e)) (he : P.underlying e = some (.struct fs))
    (hone : oneCellFields P fs = true) (hC : P.cellsOf e = fs.size) (h : DataW.trod enc P w base spare held fuel t cs = some x) :
    cs = [.slice none 0 0] ∨
    ∃ (a : Addr) (len cap : Nat), cs = [.slice (some a) len cap] ∧ cap ≤ maxLen ∧ len ≤ cap ∧
      ∀ i, i < len → ∀ (j : Nat) (f : Field), fs[j]? = some f → ∃ (v : Value) (y : DataW H × List MemPlace) (n : Nat), w.cell? (a.add (i * fs.size + j)) = some v ∧ DataW.trod enc P w base spare held n f.type [v] = some y := by
  rcases open_slice ht h with h0 | ⟨a, len, cap, m, n, D, Pl, hcs, hb, hl, hm, hmm, hx, hi⟩
  · exact .inl h0.1
  · refine .inr ⟨a, len, cap, hcs, hm, hl, fun i him j f hj => ?_⟩
    obtain ⟨cs', hc, ht'⟩ := hi i (by rw [hmm]; split <;> omega)
    rw [hC] at hc
    obtain ⟨ys, n', hn', hy, hlen, hyl, hf⟩ := DataW.trod_struct he ht'
    obtain ⟨_, hcl, hat⟩ := World.cells?_some hc
    obtain ⟨ho, hk⟩ := hone_of hone j f hj
    have hjl : j < fs.size := (Array.getElem?_eq_some_iff.1 hj).1
    have hcell := hat j hjl
    have hv : cs'[j]? = some (cs'[j]'(by omega)) := List.getElem?_eq_getElem (by omega)
    have h1 := hf j f hj
    rw [ho, hk] at h1
    have hone' : (cs'.drop j).take 1 = [cs'[j]'(by omega)] := by
      rw [List.drop_eq_getElem_cons (by omega)]
      rfl
    rw [hone'] at h1
    have hys : ys[j]? = some (ys[j]'(by omega)) := List.getElem?_eq_getElem (by omega)
    refine ⟨_, _, n', ?_, h1.trans hys⟩
    rw [← Go.Deep.add_add, hcell, hv]
theorem wf_u64 {n : Int} (h : (Lit.int .u64 n).wf = true) : 0 ≤ n ∧ n < 18446744073709551616 := by
  simp [Lit.wf, IntKind.min, IntKind.max, IntKind.signed, IntKind.bits] at h
  omega
end
theorem open_args {H : Type} {enc : TypeId × Value → H} {w : World} {fuel : Nat} {v : Value} {x : DataW H × List MemPlace}
    (h : DataW.trod enc Try.prog w 0 (fun _ => true) true fuel 22 [v] = some x) : ∃ a cap ars, v = .slice a ars.length cap ∧ ArgsAt w a ars := by
  rcases open_slice_fields (P := Try.prog) Try.underlying22 Try.underlying52 (by kernel_rfl) (by kernel_rfl) h with hv | ⟨a, len, cap, hv, hm, hl, hf⟩
  · refine ⟨none, 0, [], by simpa using hv, by simp, fun i hi => by simp at hi⟩
  · have hv' : v = .slice (some a) len cap := by simpa using hv
    have hx : ∀ i, i < len → ∃ mn : Int × Int, w.cell? (a.add (i * 2)) = some (.int .i64 mn.1) ∧ w.cell? (a.add (i * 2 + 1)) = some (.int .u64 mn.2) ∧ 0 ≤ mn.2 ∧ mn.2 < 18446744073709551616 := by
      intro i hi
      obtain ⟨v0, y0, n0, c0, t0⟩ := hf i hi 0 _ rfl
      obtain ⟨v1, y1, n1, c1, t1⟩ := hf i hi 1 _ rfl
      obtain ⟨m, hm0, -, -⟩ := DataW.trod_int Try.underlying3 t0
      obtain ⟨n, hn0, -, hw⟩ := DataW.trod_int Try.underlying50 t1
      obtain rfl : v0 = .int .i64 m := by simpa using hm0
      obtain rfl : v1 = .int .u64 n := by simpa using hn0
      exact ⟨(m, n), c0, c1, wf_u64 hw⟩
    let F : Nat → Int × Int := fun i => if h : i < len then (hx i h).choose else (0, 0)
    have hF : ∀ i, i < len → w.cell? (a.add (i * 2)) = some (.int .i64 (F i).1) ∧ w.cell? (a.add (i * 2 + 1)) = some (.int .u64 (F i).2) ∧ 0 ≤ (F i).2 ∧ (F i).2 < 18446744073709551616 := by
      intro i hi
      have := (hx i hi).choose_spec
      simp only [F, hi, dif_pos]
      exact this
    refine ⟨some a, cap, (List.range len).map F, by simp [hv'], ?_, fun i hi => ?_⟩
    · simp; unfold maxLen at hm; omega
    · have hil : i < len := by simpa using hi
      obtain ⟨c0, c1, n0, n1⟩ := hF i hil
      refine ⟨a.block, a.off, ?_, ?_, ?_, ?_, ?_⟩
      · have h0 := (hF 0 (by omega)).1
        have h1 := (hF 0 (by omega)).2.1
        have : a.spot = none := by
          rcases cell_add h0 with h | h
          · exact h
          · simp at h
        cases a; simp_all
      all_goals simp only [List.getElem_map, List.getElem_range]
      · have := cell_add c0
        rw [addr_eta a _ this] at c0; exact c0
      · rw [addr_eta a _ (.inr (by omega))] at c1; exact c1
      · exact n0
      · exact n1
set_option maxRecDepth 100000 in
theorem headThere_lifted (os : Os) (started : os.Started) (H : Type) (enc : TypeId × Value → H) :
    ReturnsInHanded {} Try.checked os 4 .any (Rows.headThereSpec.pre6 enc Try.prog Try.f4 Rows.headThereRow.domain false) (Rows.headThereSpec.post enc Try.prog Try.f4 false true false false) :=
  lift_true (C := Try.checked) own started (by kernel_rfl) Try.func4 Try.params4 rfl Try.underlying4 laidOut (by kernel_rfl) (of_decide_eq_true (by kernel_rfl))
    (ChangeSpec.witness6 (enc := enc) (C := Try.checked) false ⟨#[], #[.agg #[.slice none 0 0, .slice none 0 0]], []⟩ 8 (by kernel_rfl) (by kernel_rfl) (by kernel_rfl) (by kernel_rfl)) (fun _ => rfl) rfl
    fun W b0 v d p hv h => by
      obtain ⟨v0, v1, y0, y1, n, rfl, -, -, h0, h1⟩ := open_agg2 (P := Try.prog) Try.underlying63 (by kernel_rfl) (by kernel_rfl) hv h
      obtain ⟨a, cap, ars, rfl, hA⟩ := open_args h0
      obtain ⟨tl, hst⟩ := open_bytes (P := Try.prog) Try.underlying53 Try.underlying5 (by kernel_rfl) h1
      exact there_any W hA hst
theorem headThere_holds : Rows.HeadThereSaid :=
  OpenClaim.holds_of_wide 4 Try.f4 rfl rfl rfl rfl rfl rfl rfl ⟨rfl, rfl, rfl, rfl, rfl⟩ rfl rfl rfl rfl rfl (by kernel_rfl) Try.func4 (by kernel_rfl)
    (of_decide_eq_true (by kernel_rfl)) (by unfold Func.isWrapper; first | (rw [if_pos (by decide +kernel)]; kernel_rfl) | (rw [if_neg (by decide +kernel)]; exact ⟨rfl, rfl⟩))
    (fun os started H enc _ => headThere_lifted os started H enc)
end Go.Proofs.Ytggngmmbpkoooaa
