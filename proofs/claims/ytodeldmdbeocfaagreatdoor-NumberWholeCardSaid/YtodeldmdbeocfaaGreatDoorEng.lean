/- The engine of this seat's walks: frames as lists of what is known of slots; one rule for each form of code and each kind of operation; memory as facts on blocks. Over any program. -/
import Derived.WalkKit
import Derived.StillTail
import Derived.Lib.Hide
import Derived.ScopeJumps
import Derived.Deep.LoopGhost
namespace Go.Proofs.YtodeldmdbeocfaaGreatDoor.Eng
open Go
set_option linter.unusedVariables false
set_option linter.unusedSimpArgs false

/-! ## Frames -/
abbrev Fr := List (Nat × Value)
inductive Look : Fr → Nat → Value → Prop
  | here {t : Nat} {v : Value} {r : Fr} : Look ((t, v) :: r) t v
  | there {t d : Nat} {v u : Value} {r : Fr} (h : Nat.beq d t = false) (k : Look r t v) : Look ((d, u) :: r) t v

def Knows (l : Fr) (a : Act) : Prop := ∀ t v, Look l t v → a.tmps[t]? = some v
structure Rep (n : Nat) (ds : List Deferred) (l : Fr) (a : Act) : Prop where
  size : a.tmps.size = n
  defers : a.defers = ds
  knows : Knows l a

inductive Ev (l : Fr) : Operand → Value → Prop
  | tmp {t : Nat} {v : Value} (h : Look l t v) : Ev l (.tmp t) v
  | const {v : Value} : Ev l (.const v) v
  | global {g : Nat} : Ev l (.global g) (.pointer (some ⟨g, 0, none⟩))
  | func {f : Nat} : Ev l (.func f) (.func (.func f) #[] #[])

theorem Ev.eq {l : Fr} {x : Operand} {v : Value} {a : Act} (h : Ev l x v) (ha : Knows l a) : a.eval x = v := by
  cases h with
  | tmp h => simp [Act.eval, Array.getD_eq_getD_getElem?, ha _ _ h]
  | const => rfl
  | global => rfl
  | func => rfl

theorem Rep.put {n : Nat} {ds : List Deferred} {l : Fr} {a : Act} {d : Nat} {v : Value} (h : Rep n ds l a) (hd : Nat.blt d n = true) : Rep n ds ((d, v) :: l) (a.put (some d) v) := by
  have hdn : d < n := by simpa [Nat.blt_eq] using hd
  refine ⟨by simp [Act.put, h.size], by simp [Act.put, h.defers], fun t u hl => ?_⟩
  cases hl with
  | here => simp [Act.put, Array.getElem?_setIfInBounds, h.size, hdn]
  | there hne hk =>
    have hne' : d ≠ t := by intro e; subst e; simp at hne
    simp only [Act.put, Array.getElem?_setIfInBounds, hne', if_false]
    exact h.knows _ _ hk

theorem Rep.put_none {n : Nat} {ds : List Deferred} {l : Fr} {a : Act} {v : Value} (h : Rep n ds l a) : Rep n ds l (a.put none v) := h

inductive Subs (l : Fr) : Fr → Prop
  | nil : Subs l []
  | cons {t : Nat} {v : Value} {r : Fr} (h : Look l t v) (k : Subs l r) : Subs l ((t, v) :: r)
  | conse {t : Nat} {v v' : Value} {r : Fr} (h : Look l t v) (e : v = v') (k : Subs l r) : Subs l ((t, v') :: r)

theorem Subs.look {l L : Fr} (h : Subs l L) {t : Nat} {v : Value} (hl : Look L t v) : Look l t v := by
  induction h with
  | nil => cases hl
  | cons h k ih =>
    cases hl with
    | here => exact h
    | there _ hk => exact ih hk
  | conse h e k ih =>
    subst e
    cases hl with
    | here => exact h
    | there _ hk => exact ih hk

theorem Rep.subs {n : Nat} {ds : List Deferred} {l L : Fr} {a : Act} (h : Rep n ds l a) (hs : Subs l L) : Rep n ds L a :=
  ⟨h.size, h.defers, fun t v hl => h.knows t v (hs.look hl)⟩

/-! ## Judgements -/
section judge
variable {P : Program} {n : Nat} {ds : List Deferred} {ops : Array Oper} {Q : Exit → Act → World → Prop} {l L : Fr} {w : World} {rest : List Oper}

def JL (P : Program) (n : Nat) (ds : List Deferred) (ops : Array Oper) (Q : Exit → Act → World → Prop) (rest : List Oper) (l : Fr) (w : World) : Prop := ∀ a, Rep n ds l a → wpList P ops Q rest a w
def JC (P : Program) (n : Nat) (ds : List Deferred) (c : Code) (Q : Exit → Act → World → Prop) (l : Fr) (w : World) : Prop := ∀ a, Rep n ds l a → c.wp P Q a w
def JE (n : Nat) (ds : List Deferred) (e : Exit) (Q : Exit → Act → World → Prop) (l : Fr) (w : World) : Prop := ∀ a, Rep n ds l a → Q e a w
def JS (P : Program) (n : Nat) (ds : List Deferred) (ops : Array Oper) (K : Act → Prop) (rest : List Oper) (l : Fr) (w : World) : Prop := ∀ a, Rep n ds l a → wpStill P ops w K rest a

/-- What an operation comes to, whatever else the frame holds. -/
def Run (P : Program) (l : Fr) (op : Op) (ty : TypeId) (w : World) (r : Result Next) : Prop :=
  ∀ (a : Act), Knows l a → ∀ d pos af g, (execOp a.eval ⟨d, op, ty, pos, af, g⟩).run P w = r

theorem JC.seq {x y : Code} (k : JC P n ds x (Exit.then (fun a w => y.wp P Q a w) Q) l w) : JC P n ds (x.seq y) Q l w := fun a ha => wp_seq (k a ha)
theorem JC.region {id : Nat} {o : List Oper} (k : JL P n ds o.toArray Q o l w) : JC P n ds (.region id o.toArray false) Q l w := fun a ha => wp_region_lit (k a ha)
theorem JC.block {id : Nat} {c : Code} (k : JC P n ds c (Exit.inBlock id Q) l w) : JC P n ds (.block id c) Q l w := fun a ha => wp_block (k a ha)
theorem JC.skip (k : JE n ds .normal Q l w) : JC P n ds .skip Q l w := fun a ha => wp_skip (k a ha)
theorem JC.exit {id : Nat} (k : JE n ds (.exit id) Q l w) : JC P n ds (.exit id) Q l w := fun a ha => wp_exit (k a ha)
theorem JC.ret (k : JE n ds .ret Q l w) : JC P n ds .ret Q l w := fun a ha => wp_ret (k a ha)
theorem JC.label {m : Nat} (k : JE n ds .normal Q l w) : JC P n ds (.label m) Q l w := fun a ha => wp_label (k a ha)
theorem JC.goto {m : Nat} (k : JE n ds (.goto m) Q l w) : JC P n ds (.goto m) Q l w := fun a ha => wp_goto (k a ha)
theorem JC.cond {c : Operand} {x y : Code} {b : Bool} (hc : Ev l c (.bool b)) (ht : b = true → JC P n ds x Q l w) (hf : b = false → JC P n ds y Q l w) : JC P n ds (.cond c x y) Q l w :=
  fun a ha => wp_cond_split (hc.eq ha.knows) (fun h => ht h a ha) (fun h => hf h a ha)
theorem JC.condT {c : Operand} {x y : Code} {b : Bool} (hc : Ev l c (.bool b)) (hb : b = true) (ht : JC P n ds x Q l w) : JC P n ds (.cond c x y) Q l w :=
  JC.cond hc (fun _ => ht) (fun h => by rw [hb] at h; cases h)
theorem JC.condF {c : Operand} {x y : Code} {b : Bool} (hc : Ev l c (.bool b)) (hb : b = false) (hf : JC P n ds y Q l w) : JC P n ds (.cond c x y) Q l w :=
  JC.cond hc (fun h => by rw [hb] at h; cases h) (fun _ => hf)
theorem JC.keep {c : Code} (hs : Subs l L) (k : JC P n ds c Q L w) : JC P n ds c Q l w := fun a ha => k a (ha.subs hs)
theorem JC.loop {c : Code} {α : Type} (fr : α → Fr) (inv : α → World → Prop) (μ : α → Nat) (x0 : α) (h0 : inv x0 w) (hs : Subs l (fr x0))
    (round : ∀ x w m, inv x w → m = μ x → JC P n ds c (Exit.then (fun a' w' => ∃ x', Rep n ds (fr x') a' ∧ inv x' w' ∧ μ x' < m) Q) (fr x) w) : JC P n ds (.loop c) Q l w := by
  intro a ha
  refine wp_loop_ghost (fun m a' w' => ∃ x', Rep n ds (fr x') a' ∧ inv x' w' ∧ μ x' = m) (μ x0) ⟨x0, ha.subs hs, h0, rfl⟩ ?_
  rintro m a1 w1 ⟨x1, hr, hi, hm⟩
  refine Code.wp_mono (fun e a' w' q => ?_) (round x1 w1 m hi hm.symm a1 hr)
  cases e with
  | normal => obtain ⟨x2, h2, i2, m2⟩ := q; exact ⟨μ x2, m2, x2, h2, i2, rfl⟩
  | _ => exact q
/-- Two ways meet: what holds between x and y. -/
theorem JC.seqc {x y : Code} {α : Type} (fr : α → Fr) (inv : α → World → Prop) (h : JC P n ds x (Exit.then (fun a w => ∃ z, Rep n ds (fr z) a ∧ inv z w) Q) l w)
    (k : ∀ z w, inv z w → JC P n ds y Q (fr z) w) : JC P n ds (x.seq y) Q l w :=
  fun a ha => wp_seq (Code.wp_mono (fun e a' w' q => by
    cases e with
    | normal => obtain ⟨z, hr, hi⟩ := q; exact k z w' hi a' hr
    | _ => exact q) (h a ha))

/-! ### What an exit comes to -/
theorem JE.seq {y : Code} (k : JC P n ds y Q l w) : JE n ds .normal (Exit.then (fun a w => y.wp P Q a w) Q) l w := k
theorem JE.blk {id : Nat} (k : JE n ds .normal Q l w) : JE n ds .normal (Exit.inBlock id Q) l w := k
theorem JE.again {α : Type} {fr : α → Fr} {inv : α → World → Prop} {μ : α → Nat} {m : Nat} (x' : α) (hs : Subs l (fr x')) (hi : inv x' w) (hm : μ x' < m) :
    JE n ds .normal (Exit.then (fun a' w' => ∃ x', Rep n ds (fr x') a' ∧ inv x' w' ∧ μ x' < m) Q) l w := fun a ha => ⟨x', ha.subs hs, hi, hm⟩
theorem JE.meet {α : Type} {fr : α → Fr} {inv : α → World → Prop} (x' : α) (hs : Subs l (fr x')) (hi : inv x' w) :
    JE n ds .normal (Exit.then (fun a' w' => ∃ x', Rep n ds (fr x') a' ∧ inv x' w') Q) l w := fun a ha => ⟨x', ha.subs hs, hi⟩
theorem JE.exit_seq {i : Nat} {K : Act → World → Prop} (k : JE n ds (.exit i) Q l w) : JE n ds (.exit i) (Exit.then K Q) l w := k
theorem JE.exit_here {i : Nat} (k : JE n ds .normal Q l w) : JE n ds (.exit i) (Exit.inBlock i Q) l w := fun a ha => by
  show (if i = i then Q .normal a w else Q (.exit i) a w); rw [if_pos rfl]; exact k a ha
theorem JE.exit_past {i id : Nat} (h : Nat.beq i id = false) (k : JE n ds (.exit i) Q l w) : JE n ds (.exit i) (Exit.inBlock id Q) l w := fun a ha => by
  have hne : i ≠ id := by intro e; subst e; simp at h
  show (if i = id then Q .normal a w else Q (.exit i) a w); rw [if_neg hne]; exact k a ha
theorem JE.ret_seq {K : Act → World → Prop} (k : JE n ds .ret Q l w) : JE n ds .ret (Exit.then K Q) l w := k
theorem JE.ret_blk {id : Nat} (k : JE n ds .ret Q l w) : JE n ds .ret (Exit.inBlock id Q) l w := k
theorem JE.keep {e : Exit} (hs : Subs l L) (k : JE n ds e Q L w) : JE n ds e Q l w := fun a ha => k a (ha.subs hs)

theorem JE.ret1 {fn : Func} {R : Ending → World → Prop} {t : Nat} {v : Value} (hr : fn.results = #[.tmp t]) (h : Look l t v) (hR : R (.returned v) w) : JE n [] .ret (bodyPost P fn R) l w := fun a ha =>
  bodyPost_ret (results_tmp hr _ _ _) ha.defers (by rw [Array.getD_eq_getD_getElem?, ha.knows _ _ h]; exact hR)
theorem JE.end1 {fn : Func} {R : Ending → World → Prop} {t : Nat} {v : Value} (hr : fn.results = #[.tmp t]) (h : Look l t v) (hR : R (.returned v) w) : JE n [] .normal (bodyPost P fn R) l w := fun a ha =>
  bodyPost_end (results_tmp hr _ _ _) ha.defers (by rw [Array.getD_eq_getD_getElem?, ha.knows _ _ h]; exact hR)
theorem JE.ret0 {fn : Func} {R : Ending → World → Prop} (hr : fn.results = #[]) (hR : R (.returned (.tuple #[])) w) : JE n [] .ret (bodyPost P fn R) l w := fun a ha =>
  bodyPost_ret (results_none hr _ _ _) ha.defers hR
theorem JE.end0 {fn : Func} {R : Ending → World → Prop} (hr : fn.results = #[]) (hR : R (.returned (.tuple #[])) w) : JE n [] .normal (bodyPost P fn R) l w := fun a ha =>
  bodyPost_end (results_none hr _ _ _) ha.defers hR
theorem JE.ret2 {fn : Func} {R : Ending → World → Prop} {t u : Nat} {v v' : Value} (hr : fn.results = #[.tmp t, .tmp u]) (h : Look l t v) (h' : Look l u v') (hR : R (.returned (.tuple #[v, v'])) w) : JE n [] .ret (bodyPost P fn R) l w := fun a ha =>
  bodyPost_ret (results_tmp2 hr _ _ _) ha.defers (by rw [Array.getD_eq_getD_getElem?, Array.getD_eq_getD_getElem?, ha.knows _ _ h, ha.knows _ _ h']; exact hR)
theorem JE.ret3 {fn : Func} {R : Ending → World → Prop} {t u x : Nat} {v v' v'' : Value} (hr : fn.results = #[.tmp t, .tmp u, .tmp x]) (h : Look l t v) (h' : Look l u v') (h'' : Look l x v'') (hR : R (.returned (.tuple #[v, v', v''])) w) : JE n [] .ret (bodyPost P fn R) l w := fun a ha =>
  bodyPost_ret (results_tmp3 hr _ _ _) ha.defers (by simp only [Array.getD_eq_getD_getElem?, ha.knows _ _ h, ha.knows _ _ h', ha.knows _ _ h'']; exact hR)

/-- A result that stands in memory, or is one of several. -/
inductive Res (P : Program) (l : Fr) (w : World) : ResultVar → Value → Prop
  | tmp {t : Nat} {v : Value} (h : Look l t v) : Res P l w (.tmp t) v
  | cell {t : Nat} {ty : TypeId} {p : Addr} {v : Value} (h : Look l t (.pointer (some p))) (hl : (loadVar ty p).run P w = .ok v w) : Res P l w (.cell t ty) v
theorem JE.retc1 {fn : Func} {R : Ending → World → Prop} {r : ResultVar} {v : Value} (hr : fn.results = #[r]) (h : Res P l w r v) (hR : R (.returned v) w) : JE n [] .ret (bodyPost P fn R) l w := fun a ha =>
  bodyPost_ret (v := v) (by
    cases h with
    | tmp h => simp [results, hr, Array.getD_eq_getD_getElem?, ha.knows _ _ h]
    | cell h hl => simp [results, hr, Array.getD_eq_getD_getElem?, ha.knows _ _ h, asAddr, hl]) ha.defers hR
theorem JE.retc2 {fn : Func} {R : Ending → World → Prop} {r r' : ResultVar} {v v' : Value} (hr : fn.results = #[r, r']) (h : Res P l w r v) (h' : Res P l w r' v') (hR : R (.returned (.tuple #[v, v'])) w) : JE n [] .ret (bodyPost P fn R) l w := fun a ha =>
  bodyPost_ret (v := .tuple #[v, v']) (by
    cases h with
    | tmp h =>
      cases h' with
      | tmp h' => simp [results, hr, Array.getD_eq_getD_getElem?, ha.knows _ _ h, ha.knows _ _ h']
      | cell h' hl' => simp [results, hr, Array.getD_eq_getD_getElem?, ha.knows _ _ h, ha.knows _ _ h', asAddr, hl']
    | cell h hl =>
      cases h' with
      | tmp h' => simp [results, hr, Array.getD_eq_getD_getElem?, ha.knows _ _ h, ha.knows _ _ h', asAddr, hl]
      | cell h' hl' => simp [results, hr, Array.getD_eq_getD_getElem?, ha.knows _ _ h, ha.knows _ _ h', asAddr, hl, hl']) ha.defers hR
theorem JE.retc3 {fn : Func} {R : Ending → World → Prop} {r r' r'' : ResultVar} {v v' v'' : Value} (hr : fn.results = #[r, r', r'']) (h : Res P l w r v) (h' : Res P l w r' v') (h'' : Res P l w r'' v'') (hR : R (.returned (.tuple #[v, v', v''])) w) : JE n [] .ret (bodyPost P fn R) l w := fun a ha =>
  bodyPost_ret (v := .tuple #[v, v', v'']) (by
    cases h with
    | tmp h =>
      cases h' with
      | tmp h' =>
        cases h'' with
        | tmp h'' => simp [results, hr, Array.getD_eq_getD_getElem?, ha.knows _ _ h, ha.knows _ _ h', ha.knows _ _ h'']
        | cell h'' hl'' => simp [results, hr, Array.getD_eq_getD_getElem?, ha.knows _ _ h, ha.knows _ _ h', ha.knows _ _ h'', asAddr, hl'']
      | cell h' hl' =>
        cases h'' with
        | tmp h'' => simp [results, hr, Array.getD_eq_getD_getElem?, ha.knows _ _ h, ha.knows _ _ h', ha.knows _ _ h'', asAddr, hl']
        | cell h'' hl'' => simp [results, hr, Array.getD_eq_getD_getElem?, ha.knows _ _ h, ha.knows _ _ h', ha.knows _ _ h'', asAddr, hl', hl'']
    | cell h hl =>
      cases h' with
      | tmp h' =>
        cases h'' with
        | tmp h'' => simp [results, hr, Array.getD_eq_getD_getElem?, ha.knows _ _ h, ha.knows _ _ h', ha.knows _ _ h'', asAddr, hl]
        | cell h'' hl'' => simp [results, hr, Array.getD_eq_getD_getElem?, ha.knows _ _ h, ha.knows _ _ h', ha.knows _ _ h'', asAddr, hl, hl'']
      | cell h' hl' =>
        cases h'' with
        | tmp h'' => simp [results, hr, Array.getD_eq_getD_getElem?, ha.knows _ _ h, ha.knows _ _ h', ha.knows _ _ h'', asAddr, hl, hl']
        | cell h'' hl'' => simp [results, hr, Array.getD_eq_getD_getElem?, ha.knows _ _ h, ha.knows _ _ h', ha.knows _ _ h'', asAddr, hl, hl', hl'']) ha.defers hR

/-! ### Lists of operations -/
theorem JL.nil (k : JE n ds .normal Q l w) : JL P n ds ops Q [] l w := fun a ha => wpList_nil (k a ha)
theorem JL.keep (hs : Subs l L) (k : JL P n ds ops Q rest L w) : JL P n ds ops Q rest l w := fun a ha => k a (ha.subs hs)
theorem JL.val {d : Nat} {op : Op} {ty : TypeId} {pos : String} {af : Array Edge} {v : Value} {w' : World} (hd : Nat.blt d n = true) (h : Run P l op ty w (.ok (.value v) w'))
    (k : JL P n ds ops Q rest ((d, v) :: l) w') : JL P n ds ops Q (⟨some d, op, ty, pos, af, none⟩ :: rest) l w := fun a ha =>
  wpList_plain rfl fun K hK => by
    show Oper.upon P _ a K Q _
    rw [h a ha.knows]
    exact hK _ _ (k _ (ha.put hd))
theorem JL.val0 {op : Op} {ty : TypeId} {pos : String} {af : Array Edge} {v : Value} {w' : World} (h : Run P l op ty w (.ok (.value v) w'))
    (k : JL P n ds ops Q rest l w') : JL P n ds ops Q (⟨none, op, ty, pos, af, none⟩ :: rest) l w := fun a ha =>
  wpList_plain rfl fun K hK => by
    show Oper.upon P _ a K Q _
    rw [h a ha.knows]
    exact hK _ _ (k _ ha)
theorem JL.skip {op : Op} {ty : TypeId} {pos : String} {af : Array Edge} {w' : World} (h : Run P l op ty w (.ok .skip w'))
    (k : JL P n ds ops Q rest l w') : JL P n ds ops Q (⟨none, op, ty, pos, af, none⟩ :: rest) l w := fun a ha =>
  wpList_plain rfl fun K hK => by
    show Oper.upon P _ a K Q _
    rw [h a ha.knows]
    exact hK _ _ (k _ ha)

def JRet (P : Program) (n : Nat) (ds : List Deferred) (ops : Array Oper) (Q : Exit → Act → World → Prop) (rest : List Oper) (d : Option Nat) (l : Fr) : Ending → World → Prop
  | .returned v, w' => JL P n ds ops Q rest (match d with | some d => (d, v) :: l | none => l) w'
  | .panicked chain, w' => JE n ds (.panic chain) Q l w'
  | .outgrown, _ => LetsOut Q
theorem JL.call {d : Nat} {op : Op} {ty : TypeId} {pos : String} {af : Array Edge} {f : FuncId} {args : Array Value} {w1 : World} {R : Ending → World → Prop} (hd : Nat.blt d n = true)
    (h : Run P l op ty w (.ok (.enter f args) w1)) (hc : Calls P f args w1 R) (k : ∀ e w', R e w' → JRet P n ds ops Q rest (some d) l e w') : JL P n ds ops Q (⟨some d, op, ty, pos, af, none⟩ :: rest) l w := fun a ha =>
  wpList_plain rfl fun K hK => by
    show Oper.upon P _ a K Q _
    rw [h a ha.knows, Oper.upon_enter]
    refine hc.mono fun e w' he => ?_
    have := k e w' he
    cases e with
    | returned v => exact hK _ _ (this _ (ha.put hd))
    | panicked ch => exact this a ha
    | outgrown => exact this
theorem JL.call0 {op : Op} {ty : TypeId} {pos : String} {af : Array Edge} {f : FuncId} {args : Array Value} {w1 : World} {R : Ending → World → Prop}
    (h : Run P l op ty w (.ok (.enter f args) w1)) (hc : Calls P f args w1 R) (k : ∀ e w', R e w' → JRet P n ds ops Q rest none l e w') : JL P n ds ops Q (⟨none, op, ty, pos, af, none⟩ :: rest) l w := fun a ha =>
  wpList_plain rfl fun K hK => by
    show Oper.upon P _ a K Q _
    rw [h a ha.knows, Oper.upon_enter]
    refine hc.mono fun e w' he => ?_
    have := k e w' he
    cases e with
    | returned v => exact hK _ _ (this _ ha)
    | panicked ch => exact this a ha
    | outgrown => exact this

theorem yielded_eq {a : Act} {j dj : Nat} {oj : Oper} {b : Bool} (ho : ops[j]? = some oj) (hd : oj.dst = some dj) (hl : Look l dj (.bool b)) (ha : Knows l a) : yielded ops a.tmps j = some b := by
  simp [yielded, ho, hd, ha _ _ hl]
theorem JL.gyes {d : Option Tmp} {op : Op} {ty : TypeId} {pos : String} {af : Array Edge} {j dj : Nat} {want : Bool} {oj : Oper} (ho : ops[j]? = some oj) (hd : oj.dst = some dj) (hl : Look l dj (.bool want))
    (k : JL P n ds ops Q (⟨d, op, ty, pos, af, none⟩ :: rest) l w) : JL P n ds ops Q (⟨d, op, ty, pos, af, some (j, want)⟩ :: rest) l w := fun a ha => by
  have h := k a ha
  unfold wpList at h ⊢
  rw [if_pos (by simp [Region.wanted, yielded_eq ho hd hl ha.knows])]
  rw [if_pos (by simp [Region.wanted])] at h
  exact h
theorem JL.gno {d : Nat} {op : Op} {ty : TypeId} {pos : String} {af : Array Edge} {j dj : Nat} {want b : Bool} {oj : Oper} (hn : Nat.blt d n = true) (ho : ops[j]? = some oj) (hd : oj.dst = some dj) (hl : Look l dj (.bool b)) (hb : (b == want) = false)
    (k : JL P n ds ops Q rest ((d, undef) :: l) w) : JL P n ds ops Q (⟨some d, op, ty, pos, af, some (j, want)⟩ :: rest) l w := fun a ha => by
  unfold wpList
  rw [if_neg (by simpa [Region.wanted, yielded_eq ho hd hl ha.knows] using hb)]
  exact k _ (ha.put hn)

/-! ### Regions that draw their order: what only looks, and a tail -/
theorem JC.drawn {id m : Nat} {o : List Oper} (hm : P.follows .mixedOrders = true) (hB : Region.lexTailB .any o.toArray m = true)
    (k : JS P n ds o.toArray (fun a => wpList P o.toArray Q (o.drop m) a w.drew) (o.take m) l w.drew) : JC P n ds (.region id o.toArray true) Q l w := fun a ha =>
  wp_region_still_tail m hm hB (k a ha)
theorem JC.still {id : Nat} {o : List Oper} (hm : P.follows .mixedOrders = true) (hB : Region.lexB .any o.toArray = true)
    (k : JS P n ds o.toArray (fun a => Q .normal a w.drew) o l w.drew) : JC P n ds (.region id o.toArray true) Q l w := fun a ha =>
  wp_region_still_lit hm hB (k a ha)
theorem JS.tail (k : JL P n ds ops Q rest l w) : JS P n ds ops (fun a => wpList P ops Q rest a w) [] l w := fun a ha => wpStill_nil (k a ha)
theorem JS.nil (k : JE n ds .normal Q l w) : JS P n ds ops (fun a => Q .normal a w) [] l w := fun a ha => wpStill_nil (k a ha)
theorem JS.val {K : Act → Prop} {d : Nat} {op : Op} {ty : TypeId} {pos : String} {af : Array Edge} {v : Value} (hd : Nat.blt d n = true) (h : Run P l op ty w (.ok (.value v) w))
    (k : JS P n ds ops K rest ((d, v) :: l) w) : JS P n ds ops K (⟨some d, op, ty, pos, af, none⟩ :: rest) l w := fun a ha =>
  wpStill_step fun K' hK => by
    rw [if_pos (by simp [Region.wanted])]
    show Oper.stillUpon P _ a w K' _
    rw [h a ha.knows, Oper.stillUpon_value]
    exact hK _ (k _ (ha.put hd))
theorem JS.call {K : Act → Prop} {d : Nat} {op : Op} {ty : TypeId} {pos : String} {af : Array Edge} {f : FuncId} {args : Array Value} {v : Value} (hd : Nat.blt d n = true)
    (h : Run P l op ty w (.ok (.enter f args) w)) (hc : Calls P f args w (fun e w' => e = .returned v ∧ w' = w)) (k : JS P n ds ops K rest ((d, v) :: l) w) : JS P n ds ops K (⟨some d, op, ty, pos, af, none⟩ :: rest) l w := fun a ha =>
  wpStill_step fun K' hK => by
    rw [if_pos (by simp [Region.wanted])]
    show Oper.stillUpon P _ a w K' _
    rw [h a ha.knows]
    exact ⟨rfl, v, hc, hK _ (k _ (ha.put hd))⟩
theorem JS.gyes {K : Act → Prop} {d : Option Tmp} {op : Op} {ty : TypeId} {pos : String} {af : Array Edge} {j dj : Nat} {want : Bool} {oj : Oper} (ho : ops[j]? = some oj) (hd : oj.dst = some dj) (hl : Look l dj (.bool want))
    (k : JS P n ds ops K (⟨d, op, ty, pos, af, none⟩ :: rest) l w) : JS P n ds ops K (⟨d, op, ty, pos, af, some (j, want)⟩ :: rest) l w := fun a ha => by
  have h := k a ha
  unfold wpStill at h ⊢
  rw [if_pos (by simp [Region.wanted, yielded_eq ho hd hl ha.knows])]
  rw [if_pos (by simp [Region.wanted])] at h
  exact h
theorem JS.gno {K : Act → Prop} {d : Nat} {op : Op} {ty : TypeId} {pos : String} {af : Array Edge} {j dj : Nat} {want b : Bool} {oj : Oper} (hn : Nat.blt d n = true) (ho : ops[j]? = some oj) (hd : oj.dst = some dj) (hl : Look l dj (.bool b)) (hb : (b == want) = false)
    (k : JS P n ds ops K rest ((d, undef) :: l) w) : JS P n ds ops K (⟨some d, op, ty, pos, af, some (j, want)⟩ :: rest) l w := fun a ha => by
  unfold wpStill
  rw [if_neg (by simpa [Region.wanted, yielded_eq ho hd hl ha.knows] using hb)]
  exact k _ (ha.put hn)

theorem JL.gund {d : Nat} {op : Op} {ty : TypeId} {pos : String} {af : Array Edge} {j dj : Nat} {want : Bool} {oj : Oper} (hn : Nat.blt d n = true) (ho : ops[j]? = some oj) (hd : oj.dst = some dj) (hl : Look l dj undef)
    (k : JL P n ds ops Q rest ((d, undef) :: l) w) : JL P n ds ops Q (⟨some d, op, ty, pos, af, some (j, want)⟩ :: rest) l w := fun a ha => by
  unfold wpList
  rw [if_neg (by simp [Region.wanted, yielded, ho, hd, ha.knows _ _ hl, undef])]
  exact k _ (ha.put hn)
theorem JS.gund {K : Act → Prop} {d : Nat} {op : Op} {ty : TypeId} {pos : String} {af : Array Edge} {j dj : Nat} {want : Bool} {oj : Oper} (hn : Nat.blt d n = true) (ho : ops[j]? = some oj) (hd : oj.dst = some dj) (hl : Look l dj undef)
    (k : JS P n ds ops K rest ((d, undef) :: l) w) : JS P n ds ops K (⟨some d, op, ty, pos, af, some (j, want)⟩ :: rest) l w := fun a ha => by
  unfold wpStill
  rw [if_neg (by simp [Region.wanted, yielded, ho, hd, ha.knows _ _ hl, undef])]
  exact k _ (ha.put hn)
theorem JRet.ret {d : Nat} {v : Value} (k : JL P n ds ops Q rest ((d, v) :: l) w) : JRet P n ds ops Q rest (some d) l (.returned v) w := k
theorem JRet.ret0 {v : Value} (k : JL P n ds ops Q rest l w) : JRet P n ds ops Q rest none l (.returned v) w := k
theorem JL.gyesb {d : Option Tmp} {op : Op} {ty : TypeId} {pos : String} {af : Array Edge} {j dj : Nat} {want b : Bool} {oj : Oper} (ho : ops[j]? = some oj) (hd : oj.dst = some dj) (hl : Look l dj (.bool b)) (hb : b = want)
    (k : JL P n ds ops Q (⟨d, op, ty, pos, af, none⟩ :: rest) l w) : JL P n ds ops Q (⟨d, op, ty, pos, af, some (j, want)⟩ :: rest) l w := JL.gyes ho hd (hb ▸ hl) k
theorem JL.gnob {d : Nat} {op : Op} {ty : TypeId} {pos : String} {af : Array Edge} {j dj : Nat} {want b : Bool} {oj : Oper} (hn : Nat.blt d n = true) (ho : ops[j]? = some oj) (hd : oj.dst = some dj) (hl : Look l dj (.bool b)) (hb : b = !want)
    (k : JL P n ds ops Q rest ((d, undef) :: l) w) : JL P n ds ops Q (⟨some d, op, ty, pos, af, some (j, want)⟩ :: rest) l w := JL.gno hn ho hd hl (by subst hb; cases want <;> rfl) k
theorem JS.gyesb {K : Act → Prop} {d : Option Tmp} {op : Op} {ty : TypeId} {pos : String} {af : Array Edge} {j dj : Nat} {want b : Bool} {oj : Oper} (ho : ops[j]? = some oj) (hd : oj.dst = some dj) (hl : Look l dj (.bool b)) (hb : b = want)
    (k : JS P n ds ops K (⟨d, op, ty, pos, af, none⟩ :: rest) l w) : JS P n ds ops K (⟨d, op, ty, pos, af, some (j, want)⟩ :: rest) l w := JS.gyes ho hd (hb ▸ hl) k
theorem JS.gnob {K : Act → Prop} {d : Nat} {op : Op} {ty : TypeId} {pos : String} {af : Array Edge} {j dj : Nat} {want b : Bool} {oj : Oper} (hn : Nat.blt d n = true) (ho : ops[j]? = some oj) (hd : oj.dst = some dj) (hl : Look l dj (.bool b)) (hb : b = !want)
    (k : JS P n ds ops K rest ((d, undef) :: l) w) : JS P n ds ops K (⟨some d, op, ty, pos, af, some (j, want)⟩ :: rest) l w := JS.gno hn ho hd hl (by subst hb; cases want <;> rfl) k
theorem JL.gsplit {dj : Nat} {want b : Bool} (hl : Look l dj (.bool b)) (hy : b = want → JL P n ds ops Q rest l w) (hn : b = !want → JL P n ds ops Q rest l w) : JL P n ds ops Q rest l w := by
  cases b <;> cases want <;> first | exact hy rfl | exact hn rfl
theorem JS.gsplit {K : Act → Prop} {dj : Nat} {want b : Bool} (hl : Look l dj (.bool b)) (hy : b = want → JS P n ds ops K rest l w) (hn : b = !want → JS P n ds ops K rest l w) : JS P n ds ops K rest l w := by
  cases b <;> cases want <;> first | exact hy rfl | exact hn rfl

/-! ### A call of a function -/
def numbered : Nat → List Value → Fr
  | _, [] => []
  | i, v :: r => (i, v) :: numbered (i + 1) r
theorem numbered_look : ∀ (vs : List Value) (i t : Nat) (v : Value), Look (numbered i vs) t v → i ≤ t ∧ vs[t - i]? = some v
  | [], i, t, v, h => by cases h
  | u :: r, i, t, v, h => by
    cases h with
    | here => simp
    | there hne hk =>
      obtain ⟨h1, h2⟩ := numbered_look r (i + 1) t v hk
      refine ⟨by omega, ?_⟩
      rw [show t - i = (t - (i + 1)) + 1 from by omega]
      simpa using h2
theorem calls {f : FuncId} {fn : Func} {c : Code} {vs : List Value} {R : Ending → World → Prop} (hf : P.funcs[f]? = some fn) (hb : fn.body = some c) (hn : fn.ntmps = n) (hl : Nat.ble vs.length n = true)
    (k : JC P n [] c (bodyPost P fn R) (numbered 0 vs) w) : Calls P f vs.toArray w R := by
  refine calls_of_wp hf hb (k _ ⟨?_, rfl, fun t v h => ?_⟩)
  · have := Nat.le_of_ble_eq_true hl
    simp [hn]; omega
  · obtain ⟨_, h2⟩ := numbered_look _ _ _ _ h
    simp only [Nat.sub_zero] at h2
    have hlt : t < vs.length := (List.getElem?_eq_some_iff.1 h2).1
    rw [Array.getElem?_append_left (by simpa using hlt)]
    simpa using h2
end judge
end Go.Proofs.YtodeldmdbeocfaaGreatDoor.Eng
