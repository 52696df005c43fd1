/- The engine: a struct loaded from a place of which the cells are known. -/
import Derived.Test.YtggngmmbpkoooaaLtS
namespace Go.Proofs.Ytggngmmbpkoooaa.Eng
open Go
set_option linter.unusedVariables false
set_option linter.unusedSimpArgs false
section
variable {P : Program} {l : Fr} {w : World} {ty : TypeId}
theorem Run.loadN {T : TypeId} {x : Operand} {b o sz : Nat} {news : List Value} (hag : (isAgg T).run P w = .ok true w) (hz : (sizeOf T).run P w = .ok sz w) (hx : Ev l x (.pointer (some ⟨b, o, none⟩))) (hsz : news.length = sz)
    (hc : ∀ j u, news[j]? = some u → w.cell? ⟨b, o + j, none⟩ = some u) : Run P l (.load T x) ty w (.ok (.value (.agg news.toArray)) w) := fun a ha _ _ _ _ => by
  have h := run_loadAt (P := P) (b := b) (o := o) news sz 0 #[] (by omega) hc
  simp only [List.drop_zero] at h
  simp [execOp, hx.eq ha, Instr.loadAt, Instr.sureAddr, loadVar, hag, hz, loadCells, h]
theorem two_cells {w : World} {b o : Nat} {u v : Value} (h0 : w.cell? ⟨b, o, none⟩ = some u) (h1 : w.cell? ⟨b, o + 1, none⟩ = some v) : ∀ j x, [u, v][j]? = some x → w.cell? ⟨b, o + j, none⟩ = some x := by
  intro j x hj
  match j, hj with
  | 0, hj => simp at hj; subst hj; exact h0
  | 1, hj => simp at hj; subst hj; exact h1
end
section
variable {P : Program} {n : Nat} {ds : List Deferred} {ops : Array Oper} {I : World → Prop} {K : Act → World → Prop} {l : Fr} {w : World} {listed : Array Bool} {f : Nat}
/-- a guarded call that leaves the world alone, taken ahead. -/
theorem JA.takecg (i : Nat) {d j dj : Nat} {op : Op} {ty : TypeId} {pos : String} {af : Array Edge} {v : Value} {b want : Bool} {L : Array Bool} {oj : Oper} {fn : FuncId} {args : Array Value} (hs : Region.noSelect ops = true) (ho : ops[i]? = some ⟨some d, op, ty, pos, af, some (j, want)⟩) (hr : (Region.ready .any ops listed).contains i = true) (hf : Region.free .any ops listed i = true) (hL : listed.setIfInBounds i true = L) (hd : Nat.blt d n = true)
    (hoj : ops[j]? = some oj) (hdj : oj.dst = some dj) (hl : Look l dj (.bool b)) (hb : b = want) (h : ∀ w, I w → Run P l op ty w (.ok (.enter fn args) w)) (hc : ∀ w, I w → Calls P fn args w fun e w' => e = .returned v ∧ w' = w) (k : JA P n ds ops I K f L ((d, v) :: l) w) : JA P n ds ops I K (f + 1) listed l w := fun a ha => by
  subst hL; subst hb
  exact wpI_first ho (Region.noSelect_spec hs) f listed a w (Region.free_spec ho hf) (by simpa using hr) (.inl ⟨by simp [Region.wanted, yielded_eq hoj hdj hl ha.knows], fun w' hI => .inr ⟨fn, args, h w' hI a ha.knows _ _ _ _, hc w' hI⟩⟩) (k _ (ha.put hd))
end
end Go.Proofs.Ytggngmmbpkoooaa.Eng
