/- The engine, reflected: rules for single operations that the kernel does not carry out by itself. Over any program. -/
import Derived.Test.YtodeldmdbeocfaaGreatDoorRz
import Derived.Test.YtodeldmdbeocfaaGreatDoorEngEq
import Derived.Laws.IdiomStrings
namespace Go.Proofs.YtodeldmdbeocfaaGreatDoor.Eng
open Go Go.Lib
set_option linter.unusedVariables false
set_option linter.unusedSimpArgs false
section
variable {P : Program} {n : Nat} {ds : List Deferred} {ops : Array Oper} {Q : Exit → Act → World → Prop} {l : Fr} {w : World} {rest : List Oper}
theorem Run.callX {f : FuncId} {xs : List Operand} {vs : List Value} {ts : Array TypeId} {ty : TypeId} {v : Value} {w' : World} (hc : (callFunc f vs.toArray).run P w = .ok (.value v) w') (h : xs.map (evO l) = vs.map some) : Run P l (.call ⟨.value (.func f), xs.toArray, ts⟩) ty w (.ok (.value v) w') := fun a ha _ _ _ _ => by
  have he : Evs l xs vs := by
    clear hc
    induction xs generalizing vs with
    | nil => cases vs with
      | nil => exact .nil
      | cons v vs => simp at h
    | cons x xs ih => cases vs with
      | nil => simp at h
      | cons v vs =>
        simp only [List.map_cons, List.cons.injEq] at h
        exact .cons (evE h.1) (ih h.2)
  have h1 : a.eval (.func f) = .func (.func f) #[] #[] := rfl
  simp [execOp, resolve, Deferred.ofValue, invoke, h1, he.eq ha, hc]
theorem Run.callXq {f : FuncId} {xs : List Operand} {vs : List Value} {ts : Array TypeId} {ty : TypeId} {v : Value} (hc : (callFunc f vs.toArray).run P w = .ok (.value v) w) (h : xs.map (evO l) = vs.map some) : Run P l (.call ⟨.value (.func f), xs.toArray, ts⟩) ty w (.ok (.value v) w) := Run.callX hc h
/-- '[]byte(s)': a block of its own. -/
theorem JL.strBytes {d : Nat} {S T e ty : TypeId} {pos : String} {af : Array Edge} {x : Operand} {s : ByteArray} (hd : Nat.blt d n = true)
    (hS : P.underlying S = some .string) (hT : P.underlying T = some (.slice e)) (he : P.underlying e = some (.int .u8)) (hx : Ev l x (.string s)) (hlen : s.size ≤ 4611686018427387904)
    (k : ∀ b cap w', w.heap.size ≤ b → Ch No w w' → s.size ≤ cap → cap ≤ 9223372036854775807 → (∀ j c, s.data[j]? = some c → w'.cell? ⟨b, j, none⟩ = some (bv c)) → b < w'.heap.size → JL P n ds ops Q rest ((d, .slice (some ⟨b, 0, none⟩) s.size cap) :: l) w') : JL P n ds ops Q (⟨some d, .convert S T x, ty, pos, af, none⟩ :: rest) l w := by
  have hge := grownCap_ge w s.size 0 e
  have hle := grownCap_le_maxLen w s.size 0 e (by unfold maxLen; omega)
  have hrun := run_bytes_of_string (P := P) w S T e s hS hT he
  obtain ⟨W, hW⟩ : ∃ W, W = w.drew.alloc (.cells (bytesRow s (grownCap w s.size 0 e)) e ((bytesRow s (grownCap w s.size 0 e)).size, (bytesRow s (grownCap w s.size 0 e)).size + 1)) := ⟨_, rfl⟩
  rw [← hW] at hrun
  have hnew : W.heap[w.heap.size]? = some (.cells (bytesRow s (grownCap w s.size 0 e)) e ((bytesRow s (grownCap w s.size 0 e)).size, (bytesRow s (grownCap w s.size 0 e)).size + 1)) := by
    rw [hW]
    show (w.heap.push _)[w.heap.size]? = _
    simp
  refine JL.val hd (v := .slice (some ⟨w.heap.size, 0, none⟩) s.size (grownCap w s.size 0 e)) (w' := W) (fun a ha _ _ _ _ => by simp [execOp, hx.eq ha, hrun]) (k w.heap.size (grownCap w s.size 0 e) W (Nat.le_refl _) ?_ hge (by unfold maxLen at hle; omega) (fun j c hj => ?_) ?_)
  · rw [hW]; exact ⟨rfl, rfl, rfl, by simp, fun k hk _ => RowKit.Below.heap_alloc w.drew _ k hk⟩
  · have hjl : j < s.data.size := (Array.getElem?_eq_some_iff.1 hj).1
    have hrow : (bytesRow s (grownCap w s.size 0 e))[j]? = some (bv c) := by
      unfold bytesRow
      rw [Array.getElem?_append_left (by simpa using hjl)]
      simp [hj, bv]
    simp only [World.cell?, hnew]
    simpa using hrow
  · exact (Array.getElem?_eq_some_iff.1 hnew).1
end
end Go.Proofs.YtodeldmdbeocfaaGreatDoor.Eng
