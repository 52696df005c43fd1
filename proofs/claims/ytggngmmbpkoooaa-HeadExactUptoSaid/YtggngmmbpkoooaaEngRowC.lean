/- From a contract to a row that bears a condition of its own. -/
import Derived.Test.YtggngmmbpkoooaaEngRow
import Derived.Deep.CondSized
namespace Go.Proofs.Ytggngmmbpkoooaa.Eng
open Go Go.ChangeShapes Go.WideShapes Go.ChangeAt Go.RowKit Go.Deep Go.Joins
set_option linter.unusedVariables false
section
variable {H : Type} {enc : TypeId × Value → H} {P : Program}
/-- The same, of a row that bears a condition of its own. -/
theorem lift_trueC {C : Checked} {os : Os} {id : FuncId} {fn : Func} {s : OpenSpec} {k : (H : Type) → List (DataW H) → Bool} (hk : s.cond = some k) {F : Stop.Interp} {T B : TypeId} {fresh handsOn again : Bool} (own : ownKnob C.prog.godebug = none) (started : os.Started) (noInit : C.prog.inits.idxOf? id = none)
    (hfn : C.prog.funcs[id]? = some fn) (hpar : fn.params = #[T]) (hres : fn.resultTypes = #[B]) (hB : C.prog.underlying B = some .bool) (hl : laidOutB C.prog = true) (hr : C.prog.readableRec T = true) (hrow : T < C.prog.types.size)
    (wit : ∃ (w : World) (tape : Tape) (i : Input), w.os = os ∧ (w.forCall tape i).Shaped C.prog ∧ i.vars = [] ∧ Input.okWide C.prog (w.forCall tape i) .any w.heap.size id i ∧
      s.pre6 enc C.prog fn [] false (w.forCall tape i).memory i.args ∧ ({} : Assume).holds C.prog (lone (Frame.enter C.prog id i.args .normal) [] (w.forCall tape i)))
    (hs : ∀ d : DataW H, (s.at F).fn H [d] = { results := [.lit (.bool true)], args := [d] }) (hvars : s.vars = [])
    (walk : ∀ (W : World) (b0 : Nat) (v : Value) (d : DataW H) (p : List MemPlace), Value.okWide C.prog W .any b0 T v → DataW.Trod enc C.prog W 0 (fun _ => true) true T v d p → (∀ n ∈ d.weights C.prog T, n ≤ reachBytes) → k H [d] = true →
      Calls C.prog id #[v] W fun e W' => e = .returned (.bool true) ∧ Ch No W W') :
    ReturnsInHanded {} C os id .any (s.pre6 enc C.prog fn [] false) ((s.at F).post enc C.prog fn false fresh handsOn again) := by
  refine returnsInHanded_of_cond_sized hk own started noInit hfn wit ?_
  intro W base args ds gs before hval hW _ hkk hzz _
  have hW' := hW
  obtain ⟨p, q, hA, hV, hpq, -, -⟩ := hW
  have hvars' : (s.at F).vars = [] := hvars
  rw [hvars] at hV
  obtain ⟨rfl, rfl⟩ := trodVars_none hV
  rw [hpar] at hA
  obtain ⟨v, d, rfl, rfl, h0⟩ := trodAll_one hA
  rw [List.append_nil] at hpq
  subst hpq
  refine (walk W base v d before (hval 0 T v (by rw [hpar]; rfl) rfl) h0 (fun n hn => by
    have := List.all_eq_true.1 hzz n (DataW.weights_mem_each (j := 0) (t := T) (d := d) (by rw [hpar]; rfl) rfl n hn)
    simpa using this) (by simpa using hkk)).mono fun e W' he => ?_
  have hb := he.2.below
  have hw := hW'
  refine ⟨_, he.1, post_of_below (pa := before) (pv := []) hw (fun _ _ _ => ?_) (fun sp hsp => ?_) (fun sp _ => ?_) (by simp) hb ?_⟩
  · rw [hres, List.append_nil, hs]; exact trodAll_mk1 (shut_bool hB _)
  · rw [hpar, List.append_nil, hs]; exact trodAll_mk1 (WideElems.Trod_stays hl hr hrow h0 (fun x hx => hb.same (hW'.lt x hx)) hsp)
  · rw [hvars', List.append_nil, hs]; rfl
  · rw [hres]; exact fun j t r h1 h2 => ok_one (f := fn) hres rfl (okWide_bool_mk hB _) j t r (by rw [hres]; exact h1) (by rw [hres]; exact h2)
end
end Go.Proofs.Ytggngmmbpkoooaa.Eng
