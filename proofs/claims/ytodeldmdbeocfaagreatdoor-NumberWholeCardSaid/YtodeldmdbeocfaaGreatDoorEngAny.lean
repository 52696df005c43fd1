/- The engine, fifth part: a region that draws its order, walked in an order of ours: what only looks, and would tell the same in every world that the region comes to, is taken first; what is left comes one by one. -/
import Derived.Test.YtodeldmdbeocfaaGreatDoorEngNum
namespace Go.Proofs.YtodeldmdbeocfaaGreatDoor.Eng
open Go
set_option linter.unusedVariables false
set_option linter.unusedSimpArgs false
section
variable {P : Program} {ops : Array Oper} {Q : Exit → Act → World → Prop} {I : World → Prop} {md : Region.Mode}

/-- One operation, that tells a value, nothing, or what a call returns. -/
def opI (P : Program) (ops : Array Oper) (i : Nat) (K : Act → World → Prop) (a : Act) (w : World) : Prop :=
  ∃ o, ops[i]? = some o ∧
    ((Region.wanted o (yielded ops a.tmps) = true ∧
        ((∃ v w', (execOp a.eval o).run P w = .ok (.value v) w' ∧ K (a.put o.dst v) w') ∨ (∃ w', (execOp a.eval o).run P w = .ok .skip w' ∧ K (a.put o.dst undef) w') ∨
         (∃ f args w', (execOp a.eval o).run P w = .ok (.enter f args) w' ∧ Calls P f args w' fun e w'' => ∃ v, e = .returned v ∧ K (a.put o.dst v) w''))) ∨
     (Region.wanted o (yielded ops a.tmps) = false ∧ K (a.put o.dst undef) w))
theorem opI.mono {i : Nat} {a : Act} {w : World} {K K' : Act → World → Prop} (hk : ∀ a w, K a w → K' a w) (h : opI P ops i K a w) : opI P ops i K' a w := by
  obtain ⟨o, ho, h⟩ := h
  refine ⟨o, ho, ?_⟩
  rcases h with ⟨hw, h⟩ | ⟨hw, h⟩
  · refine .inl ⟨hw, ?_⟩
    rcases h with ⟨v, w', hr, h⟩ | ⟨w', hr, h⟩ | ⟨f, args, w', hr, h⟩
    · exact .inl ⟨v, w', hr, hk _ _ h⟩
    · exact .inr (.inl ⟨w', hr, hk _ _ h⟩)
    · exact .inr (.inr ⟨f, args, w', hr, h.mono fun e w'' ⟨v, he, h⟩ => ⟨v, he, hk _ _ h⟩⟩)
  · exact .inr ⟨hw, hk _ _ h⟩
theorem opI.wp {i : Nat} {a : Act} {w : World} {K : Act → World → Prop} (h : opI P ops i K a w) : wpOp P ops Q i K a w := by
  obtain ⟨o, ho, h⟩ := h
  unfold wpOp
  simp only [ho]
  rcases h with ⟨hw, h⟩ | ⟨hw, h⟩
  · rw [if_pos hw]
    refine .inl ?_
    unfold Oper.wp
    rcases h with ⟨v, w', hr, h⟩ | ⟨w', hr, h⟩ | ⟨f, args, w', hr, h⟩
    · rw [hr]; exact h
    · rw [hr]; exact h
    · rw [hr]
      exact Calls.mono h fun e w'' ⟨v, he, h⟩ => by subst he; exact h
  · rw [if_neg (by simp [hw])]; exact h

/-- Whatever order: every world on the way meets I. -/
def wpI (P : Program) (md : Region.Mode) (ops : Array Oper) (I : World → Prop) (K : Act → World → Prop) : Nat → Array Bool → Act → World → Prop
  | 0, listed, a, w => I w ∧ Region.ready md ops listed = [] ∧ K a w
  | f + 1, listed, a, w => I w ∧ (Region.ready md ops listed = [] → K a w) ∧ ∀ i ∈ Region.ready md ops listed, opI P ops i (wpI P md ops I K f (listed.setIfInBounds i true)) a w
theorem wpI.any : ∀ (f : Nat) (listed : Array Bool) (a : Act) (w : World), wpI P md ops I (Q .normal) f listed a w → wpAny P md ops Q f listed a w
  | 0, listed, a, w, h => h.2
  | f + 1, listed, a, w, h => ⟨h.2.1, fun i hi => (opI.mono (fun a' w' h' => wpI.any f _ a' w' h') (h.2.2 i hi)).wp⟩
theorem wpI.inv {K : Act → World → Prop} {f : Nat} {listed : Array Bool} {a : Act} {w : World} (h : wpI P md ops I K f listed a w) : I w := by
  cases f <;> exact h.1

/-- It tells this in every world that meets I, and leaves the world alone. -/
def YieldsI (P : Program) (ops : Array Oper) (I : World → Prop) (o : Oper) (v : Value) (a : Act) : Prop :=
  (Region.wanted o (yielded ops a.tmps) = true ∧ ∀ w, I w → ((execOp a.eval o).run P w = .ok (.value v) w ∨ ∃ f args, (execOp a.eval o).run P w = .ok (.enter f args) w ∧ Calls P f args w fun e w' => e = .returned v ∧ w' = w)) ∨
  (Region.wanted o (yielded ops a.tmps) = false ∧ v = undef)
theorem YieldsI.op {i : Nat} {o : Oper} {v : Value} {a : Act} {w : World} {K : Act → World → Prop} (ho : ops[i]? = some o) (hy : YieldsI P ops I o v a) (hI : I w) (h : K (a.put o.dst v) w) : opI P ops i K a w := by
  refine ⟨o, ho, ?_⟩
  rcases hy with ⟨hw, hy⟩ | ⟨hw, rfl⟩
  · refine .inl ⟨hw, ?_⟩
    rcases hy w hI with hr | ⟨f, args, hr, hc⟩
    · exact .inl ⟨v, w, hr, h⟩
    · exact .inr (.inr ⟨f, args, w, hr, hc.mono fun e w' ⟨he, hw'⟩ => ⟨v, he, hw' ▸ h⟩⟩)
  · exact .inr ⟨hw, h⟩
theorem YieldsI.of_same {o : Oper} {v : Value} {a a' : Act} (hy : YieldsI P ops I o v a) (he : execOp a'.eval o = execOp a.eval o)
    (hw : Region.wanted o (yielded ops a'.tmps) = Region.wanted o (yielded ops a.tmps)) : YieldsI P ops I o v a' := by
  unfold YieldsI at *
  rw [he, hw]; exact hy
theorem opI_put {j : Nat} {oi oj : Oper} {v : Value} (hj : ops[j]? = some oj) (hap : oi.apart ops oj = true) (hsi : ∀ cs b, oi.op ≠ .select cs b) (hsj : ∀ cs b, oj.op ≠ .select cs b) {K : Act → World → Prop} {a : Act} {w : World}
    (hy : YieldsI P ops I oi v a) (h : opI P ops j K (a.put oi.dst v) w) : opI P ops j (fun a' w' => YieldsI P ops I oi v a' ∧ K (a'.put oi.dst v) w') a w := by
  obtain ⟨h1, h2, h3⟩ := Oper.apart_spec hap
  have keep : ∀ u, YieldsI P ops I oi v (a.put oj.dst u) := fun u => hy.of_same (execOp_put oi hsi a oj.dst u h3) (wanted_put oi a oj.dst u h3)
  obtain ⟨o, ho, h⟩ := h
  have : o = oj := Option.some.inj (ho.symm.trans hj)
  subst this
  rw [wanted_put o a oi.dst v h1, execOp_put o hsj a oi.dst v h1] at h
  refine ⟨o, ho, ?_⟩
  rcases h with ⟨hw, h⟩ | ⟨hw, h⟩
  · refine .inl ⟨hw, ?_⟩
    rcases h with ⟨u, w', hr, h⟩ | ⟨w', hr, h⟩ | ⟨f, args, w', hr, h⟩
    · exact .inl ⟨u, w', hr, keep u, by rw [← Act.put_comm a v u h2]; exact h⟩
    · exact .inr (.inl ⟨w', hr, keep _, by rw [← Act.put_comm a v undef h2]; exact h⟩)
    · exact .inr (.inr ⟨f, args, w', hr, h.mono fun e w'' ⟨u, he, h⟩ => ⟨u, he, keep u, by rw [← Act.put_comm a v u h2]; exact h⟩⟩)
  · exact .inr ⟨hw, keep _, by rw [← Act.put_comm a v undef h2]; exact h⟩

theorem wpI_first {i : Nat} {oi : Oper} {v : Value} {K : Act → World → Prop} (hi : ops[i]? = some oi) (hsel : ∀ (j : Nat) (o : Oper) cs b, ops[j]? = some o → o.op ≠ .select cs b) :
    ∀ (fuel : Nat) (listed : Array Bool) (a : Act) (w : World),
      (∀ j oj, ops[j]? = some oj → j ≠ i → listed.getD j true = false → (∀ e ∈ oj.after, Region.binds md e = true → e.on ≠ i) → oi.apart ops oj = true) →
      i ∈ Region.ready md ops listed → YieldsI P ops I oi v a →
      wpI P md ops I K fuel (listed.setIfInBounds i true) (a.put oi.dst v) w → wpI P md ops I K (fuel + 1) listed a w := by
  intro fuel
  induction fuel with
  | zero =>
    intro listed a w _ hr hy H
    refine ⟨H.1, fun h => (by rw [h] at hr; cases hr), fun j hj => ?_⟩
    by_cases hji : j = i
    · subst hji; exact hy.op hi H.1 H
    · have := ready_mono hj hji
      rw [H.2.1] at this
      cases this
  | succ fuel ih =>
    intro listed a w hfree hr hy H
    refine ⟨H.1, fun h => (by rw [h] at hr; cases hr), fun j hj => ?_⟩
    by_cases hji : j = i
    · subst hji; exact hy.op hi H.1 H
    · have h1 := H.2.2 j (ready_mono hj hji)
      obtain ⟨hjun, oj, hoj, hall⟩ := mem_ready.1 hj
      have hun := (mem_ready.1 hr).1
      have hnot : ∀ e ∈ oj.after, Region.binds md e = true → e.on ≠ i := fun e he hb heq => by
        have h1 := hall e he hb
        rw [heq] at h1
        rcases Nat.lt_or_ge i listed.size with h' | h'
        · rw [Array.getD_eq_getD_getElem?, Array.getElem?_eq_getElem h'] at h1 hun
          simp at h1 hun
          rw [h1] at hun; cases hun
        · rw [Array.getD_eq_getD_getElem?, Array.getElem?_eq_none h'] at h1
          simp at h1
      have h2 := opI_put hoj (hfree j oj hoj hji hjun hnot) (fun cs b => hsel i oi cs b hi) (fun cs b => hsel j oj cs b hoj) hy h1
      have hfree' : ∀ k ok, ops[k]? = some ok → k ≠ i → (listed.setIfInBounds j true).getD k true = false →
          (∀ e ∈ ok.after, Region.binds md e = true → e.on ≠ i) → oi.apart ops ok = true := fun k ok hk hki hun hno => by
        refine hfree k ok hk hki ?_ hno
        by_cases hjk : j = k
        · subst hjk; exact hjun
        · rw [getD_set_ne true hjk] at hun; exact hun
      refine opI.mono (fun a' w' h3 => ih (listed.setIfInBounds j true) a' w' hfree' (ready_mono hr (Ne.symm hji)) h3.1 ?_) h2
      rw [Array.setIfInBounds_comm _ _ hji]
      exact h3.2
end

section
variable {P : Program} {n : Nat} {ds : List Deferred} {ops : Array Oper} {Q : Exit → Act → World → Prop} {I : World → Prop} {l : Fr} {w : World} {listed : Array Bool} {f : Nat}
def JA (P : Program) (n : Nat) (ds : List Deferred) (ops : Array Oper) (I : World → Prop) (K : Act → World → Prop) (f : Nat) (listed : Array Bool) (l : Fr) (w : World) : Prop := ∀ a, Rep n ds l a → wpI P .any ops I K f listed a w
theorem JC.any {id : Nat} (I : World → Prop) (hm : P.follows .mixedOrders = true) (hf : ops.size = f) (k : ∀ w', Ch No w w' → JA P n ds ops I (Q .normal) f (Array.replicate f false) l w') : JC P n ds (.region id ops true) Q l w := fun a ha => by
  subst hf
  exact wp_region_any hm (wpI.any _ _ _ _ (k w.drew (Ch.drew1 w) a ha))
variable {K : Act → World → Prop}
theorem JA.done (hr : (Region.ready .any ops listed).isEmpty = true) (hI : I w) (k : JE n ds .normal Q l w) : JA P n ds ops I (Q .normal) f listed l w := fun a ha => by
  have hr' : Region.ready .any ops listed = [] := by simpa using hr
  cases f with
  | zero => exact ⟨hI, hr', k a ha⟩
  | succ f => exact ⟨hI, fun _ => k a ha, fun i hi => by rw [hr'] at hi; cases hi⟩
/-- taken ahead of all that is left. -/
theorem JA.take (i : Nat) {d : Nat} {op : Op} {ty : TypeId} {pos : String} {af : Array Edge} {v : Value} {L : Array Bool} (hs : Region.noSelect ops = true) (ho : ops[i]? = some ⟨some d, op, ty, pos, af, none⟩) (hr : (Region.ready .any ops listed).contains i = true) (hf : Region.free .any ops listed i = true) (hL : listed.setIfInBounds i true = L) (hd : Nat.blt d n = true)
    (h : ∀ w, I w → Run P l op ty w (.ok (.value v) w)) (k : JA P n ds ops I K f L ((d, v) :: l) w) : JA P n ds ops I K (f + 1) listed l w := fun a ha => by
  subst hL
  exact wpI_first ho (Region.noSelect_spec hs) f listed a w (Region.free_spec ho hf) (by simpa using hr) (.inl ⟨by simp [Region.wanted], fun w' hI => .inl (h w' hI a ha.knows _ _ _ _)⟩) (k _ (ha.put hd))
theorem JA.takec (i : Nat) {d : Nat} {op : Op} {ty : TypeId} {pos : String} {af : Array Edge} {v : Value} {L : Array Bool} {fn : FuncId} {args : Array Value} (hs : Region.noSelect ops = true) (ho : ops[i]? = some ⟨some d, op, ty, pos, af, none⟩) (hr : (Region.ready .any ops listed).contains i = true) (hf : Region.free .any ops listed i = true) (hL : listed.setIfInBounds i true = L) (hd : Nat.blt d n = true)
    (h : ∀ w, I w → Run P l op ty w (.ok (.enter fn args) w)) (hc : ∀ w, I w → Calls P fn args w fun e w' => e = .returned v ∧ w' = w) (k : JA P n ds ops I K f L ((d, v) :: l) w) : JA P n ds ops I K (f + 1) listed l w := fun a ha => by
  subst hL
  exact wpI_first ho (Region.noSelect_spec hs) f listed a w (Region.free_spec ho hf) (by simpa using hr) (.inl ⟨by simp [Region.wanted], fun w' hI => .inr ⟨fn, args, h w' hI a ha.knows _ _ _ _, hc w' hI⟩⟩) (k _ (ha.put hd))
/-- guarded ones. -/
theorem JA.takeg (i : Nat) {d j dj : Nat} {op : Op} {ty : TypeId} {pos : String} {af : Array Edge} {v : Value} {b want : Bool} {L : Array Bool} {oj : Oper} (hs : Region.noSelect ops = true) (ho : ops[i]? = some ⟨some d, op, ty, pos, af, some (j, want)⟩) (hr : (Region.ready .any ops listed).contains i = true) (hf : Region.free .any ops listed i = true) (hL : listed.setIfInBounds i true = L) (hd : Nat.blt d n = true)
    (hoj : ops[j]? = some oj) (hdj : oj.dst = some dj) (hl : Look l dj (.bool b)) (hb : b = want) (h : ∀ w, I w → Run P l op ty w (.ok (.value v) w)) (k : JA P n ds ops I K f L ((d, v) :: l) w) : JA P n ds ops I K (f + 1) listed l w := fun a ha => by
  subst hL; subst hb
  exact wpI_first ho (Region.noSelect_spec hs) f listed a w (Region.free_spec ho hf) (by simpa using hr) (.inl ⟨by simp [Region.wanted, yielded_eq hoj hdj hl ha.knows], fun w' hI => .inl (h w' hI a ha.knows _ _ _ _)⟩) (k _ (ha.put hd))
theorem JA.takegn (i : Nat) {d j dj : Nat} {op : Op} {ty : TypeId} {pos : String} {af : Array Edge} {b want : Bool} {L : Array Bool} {oj : Oper} (hs : Region.noSelect ops = true) (ho : ops[i]? = some ⟨some d, op, ty, pos, af, some (j, want)⟩) (hr : (Region.ready .any ops listed).contains i = true) (hf : Region.free .any ops listed i = true) (hL : listed.setIfInBounds i true = L) (hd : Nat.blt d n = true)
    (hoj : ops[j]? = some oj) (hdj : oj.dst = some dj) (hl : Look l dj (.bool b)) (hb : b = !want) (k : JA P n ds ops I K f L ((d, undef) :: l) w) : JA P n ds ops I K (f + 1) listed l w := fun a ha => by
  subst hL; subst hb
  exact wpI_first ho (Region.noSelect_spec hs) f listed a w (Region.free_spec ho hf) (by simpa using hr) (.inr ⟨by simp [Region.wanted, yielded_eq hoj hdj hl ha.knows], rfl⟩) (k _ (ha.put hd))
/-- the one that is left to come. -/
theorem JA.only (i : Nat) {d : Nat} {op : Op} {ty : TypeId} {pos : String} {af : Array Edge} {v : Value} {w' : World} {L : Array Bool} (ho : ops[i]? = some ⟨some d, op, ty, pos, af, none⟩) (hr : Region.ready .any ops listed = [i]) (hL : listed.setIfInBounds i true = L) (hd : Nat.blt d n = true)
    (hI : I w) (h : Run P l op ty w (.ok (.value v) w')) (k : JA P n ds ops I K f L ((d, v) :: l) w') : JA P n ds ops I K (f + 1) listed l w := fun a ha => by
  subst hL
  refine ⟨hI, (fun h0 => absurd (hr.symm.trans h0) (by simp)), fun j hj => ?_⟩
  rw [hr] at hj
  obtain rfl : j = i := by simpa using hj
  exact ⟨_, ho, .inl ⟨by simp [Region.wanted], .inl ⟨v, w', h a ha.knows _ _ _ _, k _ (ha.put hd)⟩⟩⟩
theorem JA.onlys (i : Nat) {op : Op} {ty : TypeId} {pos : String} {af : Array Edge} {w' : World} {L : Array Bool} (ho : ops[i]? = some ⟨none, op, ty, pos, af, none⟩) (hr : Region.ready .any ops listed = [i]) (hL : listed.setIfInBounds i true = L)
    (hI : I w) (h : Run P l op ty w (.ok .skip w')) (k : JA P n ds ops I K f L l w') : JA P n ds ops I K (f + 1) listed l w := fun a ha => by
  subst hL
  refine ⟨hI, (fun h0 => absurd (hr.symm.trans h0) (by simp)), fun j hj => ?_⟩
  rw [hr] at hj
  obtain rfl : j = i := by simpa using hj
  exact ⟨_, ho, .inl ⟨by simp [Region.wanted], .inr (.inl ⟨w', h a ha.knows _ _ _ _, k _ ha⟩)⟩⟩
theorem JA.onlyc (i : Nat) {d : Nat} {op : Op} {ty : TypeId} {pos : String} {af : Array Edge} {fn : FuncId} {args : Array Value} {w' : World} {R : Ending → World → Prop} {L : Array Bool} (ho : ops[i]? = some ⟨some d, op, ty, pos, af, none⟩) (hr : Region.ready .any ops listed = [i]) (hL : listed.setIfInBounds i true = L) (hd : Nat.blt d n = true)
    (hI : I w) (h : Run P l op ty w (.ok (.enter fn args) w')) (hc : Calls P fn args w' R) (k : ∀ e w'', R e w'' → ∃ v, e = .returned v ∧ JA P n ds ops I K f L ((d, v) :: l) w'') : JA P n ds ops I K (f + 1) listed l w := fun a ha => by
  subst hL
  refine ⟨hI, (fun h0 => absurd (hr.symm.trans h0) (by simp)), fun j hj => ?_⟩
  rw [hr] at hj
  obtain rfl : j = i := by simpa using hj
  exact ⟨_, ho, .inl ⟨by simp [Region.wanted], .inr (.inr ⟨fn, args, w', h a ha.knows _ _ _ _, hc.mono fun e w'' he => by obtain ⟨v, rfl, hk⟩ := k e w'' he; exact ⟨v, rfl, hk _ (ha.put hd)⟩⟩)⟩⟩
end
section
variable {P : Program} {l : Fr} {w : World} {ty : TypeId}
theorem alloc_run {T : TypeId} {z : Value} (hz : (zeroValue T).run P w = .ok z w) : ∃ b w', Run P l (.alloc T) ty w (.ok (.value (.pointer (some ⟨b, 0, none⟩))) w') ∧ w.heap.size ≤ b ∧ Ch No w w' ∧ Blk w' b T z.cells.toList :=
  ⟨w.heap.size, w.alloc (.cells z.cells T), fun a ha _ _ _ _ => by simp [execOp, Instr.alloc, hz, newVar, newRow, newObj, Sem.run], Nat.le_refl _, Ch.alloc w _, by simpa using Blk.new w T z.cells.toList⟩
theorem storeB_run {T TB : TypeId} {x y : Operand} {b j : Nat} {v : Value} {cs : List Value} (hz : (sizeOf T).run P w = .ok 1 w) (hx : Ev l x (.pointer (some ⟨b, j, none⟩))) (hy : Ev l y v) (hv : v.cells = #[v]) (h1 : one1 v = true) (hB : Blk w b TB cs) (hj : Nat.blt j cs.length = true) :
    ∃ w', Run P l (.store T x y) ty w (.ok .skip w') ∧ Ch (One b) w w' ∧ Blk w' b TB (cs.set j v) := by
  have hjl : j < cs.length := by simpa [Nat.blt_eq] using hj
  exact ⟨_, fun a ha _ _ _ _ => by simp [execOp, hx.eq ha, hy.eq ha, Instr.storeAt, Instr.sureAddr, run_store1 hz hv h1 (hB.cell (List.getElem?_eq_getElem hjl)) (hB.free hjl)], Ch.setCell w ⟨b, j, none⟩ v, hB.set v⟩
theorem storeA_run {T TB : TypeId} {x y : Operand} {b j sz : Nat} {vs cs : List Value} (hz : (sizeOf T).run P w = .ok sz w) (hx : Ev l x (.pointer (some ⟨b, j, none⟩))) (hy : Ev l y (.agg vs.toArray)) (hsz : vs.length = sz) (h1 : vs.all one1 = true) (hB : Blk w b TB cs) (hj : Nat.ble (j + vs.length) cs.length = true) :
    ∃ w', Run P l (.store T x y) ty w (.ok .skip w') ∧ Ch (One b) w w' ∧ Blk w' b TB (setMany cs j vs) := by
  have hjl := Nat.le_of_ble_eq_true hj
  obtain ⟨w', hr, hch, hb⟩ := run_storeCells (P := P) vs cs 0 j w hB (by omega) (fun v hv => List.all_eq_true.1 h1 v hv)
  exact ⟨w', fun a ha _ _ _ _ => by simp [execOp, hx.eq ha, hy.eq ha, Instr.storeAt, Instr.sureAddr, storeVar, hz, Value.cells, hsz, hr], hch, hb⟩
end
section
variable {P : Program} {n : Nat} {ds : List Deferred} {ops : Array Oper} {I : World → Prop} {K : Act → World → Prop} {l : Fr} {w : World} {listed : Array Bool} {f : Nat}
theorem JA.alloc (i : Nat) {d : Nat} {T ty : TypeId} {pos : String} {af : Array Edge} {z : Value} {L : Array Bool} (ho : ops[i]? = some ⟨some d, .alloc T, ty, pos, af, none⟩) (hr : Region.ready .any ops listed = [i]) (hL : listed.setIfInBounds i true = L) (hd : Nat.blt d n = true) (hI : I w) (hz : (zeroValue T).run P w = .ok z w)
    (k : ∀ b w', w.heap.size ≤ b → Ch No w w' → Blk w' b T z.cells.toList → JA P n ds ops I K f L ((d, .pointer (some ⟨b, 0, none⟩)) :: l) w') : JA P n ds ops I K (f + 1) listed l w := by
  obtain ⟨b, w', hr', hg, hc, hB⟩ := alloc_run (l := l) (ty := ty) hz
  exact JA.only i ho hr hL hd hI hr' (k b w' hg hc hB)
theorem JA.storeB (i : Nat) {T TB ty : TypeId} {pos : String} {af : Array Edge} {x y : Operand} {b j : Nat} {v : Value} {cs : List Value} {L : Array Bool} (ho : ops[i]? = some ⟨none, .store T x y, ty, pos, af, none⟩) (hr : Region.ready .any ops listed = [i]) (hL : listed.setIfInBounds i true = L) (hI : I w)
    (hz : (sizeOf T).run P w = .ok 1 w) (hx : Ev l x (.pointer (some ⟨b, j, none⟩))) (hy : Ev l y v) (hv : v.cells = #[v]) (h1 : one1 v = true) (hB : Blk w b TB cs) (hj : Nat.blt j cs.length = true)
    (k : ∀ w', Ch (One b) w w' → Blk w' b TB (cs.set j v) → JA P n ds ops I K f L l w') : JA P n ds ops I K (f + 1) listed l w := by
  obtain ⟨w', hr', hc, hB'⟩ := storeB_run (ty := ty) hz hx hy hv h1 hB hj
  exact JA.onlys i ho hr hL hI hr' (k w' hc hB')
theorem JA.storeA (i : Nat) {T TB ty : TypeId} {pos : String} {af : Array Edge} {x y : Operand} {b j sz : Nat} {vs cs : List Value} {L : Array Bool} (ho : ops[i]? = some ⟨none, .store T x y, ty, pos, af, none⟩) (hr : Region.ready .any ops listed = [i]) (hL : listed.setIfInBounds i true = L) (hI : I w)
    (hz : (sizeOf T).run P w = .ok sz w) (hx : Ev l x (.pointer (some ⟨b, j, none⟩))) (hy : Ev l y (.agg vs.toArray)) (hsz : vs.length = sz) (h1 : vs.all one1 = true) (hB : Blk w b TB cs) (hj : Nat.ble (j + vs.length) cs.length = true)
    (k : ∀ w', Ch (One b) w w' → Blk w' b TB (setMany cs j vs) → JA P n ds ops I K f L l w') : JA P n ds ops I K (f + 1) listed l w := by
  obtain ⟨w', hr', hc, hB'⟩ := storeA_run (ty := ty) hz hx hy hsz h1 hB hj
  exact JA.onlys i ho hr hL hI hr' (k w' hc hB')
end
end Go.Proofs.YtodeldmdbeocfaaGreatDoor.Eng
