/- The engine, reflected, third part: whole functions carried out by the kernel, where each test comes to a known word. Over any program. -/
import Derived.Test.YtodeldmdbeocfaaGreatDoorRy
import Derived.Test.YtodeldmdbeocfaaGreatDoorEngAny
import Derived.LoopN
import Derived.Scope
namespace Go.Proofs.YtodeldmdbeocfaaGreatDoor.Eng
open Go
set_option linter.unusedVariables false
set_option linter.unusedSimpArgs false

structure FnI where
  n : Nat
  res : List ResultVar
  body : Code
abbrev Fns := List (FuncId × FnI)
def aget {α : Type} : List (Nat × α) → Nat → Option α
  | [], _ => none
  | (d, v) :: r, t => match Nat.beq d t with
    | true => some v
    | false => aget r t
theorem aget_mem {α : Type} : ∀ {l : List (Nat × α)} {t : Nat} {v : α}, aget l t = some v → (t, v) ∈ l
  | (d, u) :: r, t, v, h => by
    unfold aget at h
    split at h
    · rename_i hb
      have : d = t := by simpa using hb
      subst this; cases h; exact List.mem_cons_self
    · exact List.mem_cons_of_mem _ (aget_mem h)
abbrev CR := Bool → Nat → Code → Fr → XS → Option (Exit × Fr × XS)

def resV (P : Program) (F : Fr) : List ResultVar → XS → Option (List Value × XS)
  | [], s => some ([], s)
  | .tmp t :: r, s => match lk F t with
    | some v => match resV P F r s with
      | some (vs, s') => some (v :: vs, s')
      | none => none
    | none => none
  | .cell t T :: r, s => match lk F t with
    | some (.pointer (some p)) => match hrun P true (loadVar T p) s with
      | some (v, s1) => match resV P F r s1 with
        | some (vs, s') => some (v :: vs, s')
        | none => none
      | none => none
    | _ => none
def tup : List Value → Value
  | [v] => v
  | vs => .tuple vs.toArray
def setF (F : Fr) (d : Nat) (v : Value) : Fr := (d, v) :: F.filter (fun p => !(Nat.beq p.1 d))
def evAll (F : Fr) : List Operand → Option (List Value)
  | [] => some []
  | x :: r => match evO F x, evAll F r with
    | some v, some vs => some (v :: vs)
    | _, _ => none

def ccall (P : Program) (fns : Fns) (rc : CR) (q : Bool) (f : FuncId) (vs : List Value) (s : XS) : Option (Value × XS) :=
  match aget fns f with
  | some fi => match Nat.ble vs.length fi.n with
    | true => match rc q fi.n fi.body (numbered 0 vs) s with
      | some (.ret, F', s') => match resV P F' fi.res s' with
        | some (rs, s2) => some (tup rs, s2)
        | none => none
      | some (.normal, F', s') => match resV P F' fi.res s' with
        | some (rs, s2) => some (tup rs, s2)
        | none => none
      | _ => none
    | false => none
  | none => match hrun P q (callFunc f vs.toArray) s with
    | some (.value v, s') => some (v, s')
    | _ => none
def asCall : Op → Option (Operand × Array Operand × Array TypeId)
  | .call ⟨.value c, xs, ts⟩ => some (c, xs, ts)
  | _ => none
def putC (n : Nat) (F : Fr) (d : Option Nat) (v : Value) (s : XS) : Option (Fr × XS) :=
  match d with
  | some d => match Nat.blt d n with
    | true => some (setF F d v, s)
    | false => none
  | none => some (F, s)
def cop (P : Program) (fns : Fns) (rc : CR) (q : Bool) (n : Nat) (ops : Array Oper) (F : Fr) (o : Oper) (s : XS) : Option (Fr × XS) :=
  match wantF ops F o with
  | none => none
  | some false => putC n F o.dst undef s
  | some true =>
    match asCall o.op with
    | some (c, xs, _) => match evO F c, evAll F xs.toList with
      | some (.func (.func f) fs cs), some vs => match ccall P fns rc q f (fs.toList ++ vs ++ cs.toList) s with
        | some (v, s') => putC n F o.dst v s'
        | none => none
      | _, _ => none
    | none =>
      if isSel o.op || !(o.op.operands.all fun x => (evO F x).isSome) then none else
      match hrun P q (execOp (evF F) o) s with
      | some (.value v, s') => putC n F o.dst v s'
      | some (.skip, s') => match o.dst with
        | none => some (F, s')
        | some _ => none
      | _ => none
def cops (P : Program) (fns : Fns) (rc : CR) (q : Bool) (n : Nat) (ops : Array Oper) : List Oper → Fr → XS → Option (Fr × XS)
  | [], F, s => some (F, s)
  | o :: r, F, s => match cop P fns rc q n ops F o s with
    | some (F', s') => cops P fns rc q n ops r F' s'
    | none => none
/-- What an operation that asks nothing of memory tells. -/
def pureV (P : Program) (ops : Array Oper) (F : Fr) (o : Oper) : Option Value :=
  match wantF ops F o with
  | none => none
  | some false => some undef
  | some true =>
    match asCall o.op with
    | some _ => none
    | none =>
      if isSel o.op || !(o.op.operands.all fun x => (evO F x).isSome) then none else
      match hrun P true (execOp (evF F) o) ⟨[], [], [], [], [], []⟩ with
      | some (.value v, _) => some v
      | _ => none
def pick1 (P : Program) (n : Nat) (ops : Array Oper) (L : Array Bool) (F : Fr) : List Nat → Option (Nat × Nat × Value)
  | [] => none
  | i :: r => match ops[i]? with
    | some o => match Region.free .any ops L i, o.dst with
      | true, some d => match Nat.blt d n with
        | true => match pureV P ops F o with
          | some v => some (i, d, v)
          | none => pick1 P n ops L F r
        | false => pick1 P n ops L F r
      | _, _ => pick1 P n ops L F r
    | none => pick1 P n ops L F r
def cany (P : Program) (fns : Fns) (rc : CR) (n : Nat) (ops : Array Oper) : Nat → Array Bool → Fr → XS → Option (Fr × XS)
  | 0, L, F, s => if (Region.ready .any ops L).isEmpty then some (F, s) else none
  | f + 1, L, F, s => match Region.ready .any ops L with
    | [] => some (F, s)
    | i :: r => match pick1 P n ops L F (i :: r) with
      | some (j, d, v) => cany P fns rc n ops f (L.setIfInBounds j true) (setF F d v) s
      | none => match r with
        | [] => match ops[i]? with
          | some o => match cop P fns rc false n ops F o s with
            | some (F', s') => cany P fns rc n ops f (L.setIfInBounds i true) F' s'
            | none => none
          | none => none
        | _ => none
def cloop (rc : CR) (q : Bool) (n : Nat) (c : Code) : Nat → Fr → XS → Option (Exit × Fr × XS)
  | 0, _, _ => none
  | k + 1, F, s => match rc q n c F s with
    | some (.normal, F', s') => cloop rc q n c k F' s'
    | r => r
def cscope (rc : CR) (q : Bool) (n : Nat) (c : Code) : Nat → Option (Exit × Fr × XS) → Option (Exit × Fr × XS)
  | 0, some (.goto _, _, _) => none
  | k + 1, some (.goto l, F, s) => match findLabel c l with
    | some rest => cscope rc q n c k (rc q n rest F s)
    | none => none
  | _, r => r
def crunF (P : Program) (fns : Fns) (fuel : Nat) (rc : CR) : CR
  | q, n, .seq a b, F, s => match rc q n a F s with
    | some (.normal, F', s') => rc q n b F' s'
    | r => r
  | q, n, .region _ ops false, F, s => match cops P fns rc q n ops ops.toList F s with
    | some (F', s') => some (.normal, F', s')
    | none => none
  | q, n, .region _ ops true, F, s =>
    if q then none else
    match s.hints with
    | .own m :: hs => match Region.lexTailB .any ops m with
      | true => match cops P fns rc true n ops (ops.toList.take m) F { s with hints := hs } with
        | some (F1, s1) => match cops P fns rc false n ops (ops.toList.drop m) F1 s1 with
          | some (F', s') => some (.normal, F', s')
          | none => none
        | none => none
      | false => match Region.lexB .any ops with
        | true => match cops P fns rc true n ops ops.toList F { s with hints := hs } with
          | some (F', s') => some (.normal, F', s')
          | none => none
        | false => none
    | .ownx _ :: hs => match Region.noSelect ops with
      | true => match cany P fns rc n ops ops.size (Array.replicate ops.size false) F { s with hints := hs } with
        | some (F', s') => some (.normal, F', s')
        | none => none
      | false => none
    | _ => none
  | q, n, .cond c a b, F, s => match evO F c with
    | some (.bool true) => rc q n a F s
    | some (.bool false) => rc q n b F s
    | _ => none
  | q, n, .block id c, F, s => match rc q n c F s with
    | some (.exit i, F', s') => match Nat.beq i id with
      | true => some (.normal, F', s')
      | false => some (.exit i, F', s')
    | r => r
  | q, n, .loop c, F, s => cloop rc q n c fuel F s
  | q, n, .scope c, F, s => cscope rc q n c 3 (rc q n c F s)
  | _, _, .exit i, F, s => some (.exit i, F, s)
  | _, _, .goto l, F, s => some (.goto l, F, s)
  | _, _, .ret, F, s => some (.ret, F, s)
  | _, _, .skip, F, s => some (.normal, F, s)
  | _, _, .label _, F, s => some (.normal, F, s)
  | _, _, _, _, _ => none
def crun (P : Program) (fns : Fns) : Nat → CR
  | 0 => fun _ _ _ _ _ => none
  | f + 1 => crunF P fns f (crun P fns f)

theorem hrun_empty {α : Type} {P : Program} {φ : Fz} (s : Sem α) : ∀ (x : α) (xs' : XS), hrun P true s ⟨[], [], [], [], [], []⟩ = some (x, xs') → XOk φ xs' := by
  induction s with
  | pure a => intro x xs' h; simp only [hrun, Option.some.injEq, Prod.mk.injEq] at h; obtain ⟨rfl, rfl⟩ := h; exact ⟨by simp [AllEq], by simp [Olds], by simp [Ones]⟩
  | program k ih => intro x xs' h; exact ih _ _ _ h
  | mark m k ih => intro x xs' h; exact ih _ _ h
  | load m a k ih => intro x xs' h; simp [hrun] at h
  | store m a v k ih => intro x xs' h; simp [hrun] at h
  | new o k ih => intro x xs' h; cases o <;> simp [hrun] at h
  | frozen a k ih => intro x xs' h; simp [hrun] at h
  | shape r k ih => intro x xs' h; simp [hrun] at h
  | freeze a n k ih =>
    intro x xs' h
    unfold hrun at h
    split at h
    · exact ih _ _ h
    · cases h
  | getObj r k ih => intro x xs' h; simp [hrun] at h
  | setObj r o k ih => intro x xs' h; simp [hrun] at h
  | choose q k ih => intro x xs' h; simp [hrun] at h
  | sys c k ih => intro x xs' h; simp [hrun] at h
  | halt h => intro x xs' h; simp [hrun] at h
theorem hrun_quiet_fresh {α : Type} {P : Program} (s : Sem α) : ∀ (xs : XS) (x : α) (xs' : XS), hrun P true s xs = some (x, xs') → xs'.fresh = xs.fresh := by
  induction s with
  | pure a => intro xs x xs' h; simp only [hrun, Option.some.injEq, Prod.mk.injEq] at h; obtain ⟨rfl, rfl⟩ := h; rfl
  | program k ih => intro xs x xs' h; (have := ih _ _ _ _ h; exact this)
  | mark m k ih => intro xs x xs' h; exact ih _ _ _ h
  | load m a k ih =>
    intro xs x xs' h
    unfold hrun at h
    split at h
    · split at h
      · split at h
        · (have := ih _ _ _ _ h; exact this)
        · cases h
      · cases h
    · (have := ih _ _ _ _ h; exact this)
    · cases h
  | store m a v k ih => intro xs x xs' h; simp [hrun] at h
  | new o k ih => intro xs x xs' h; cases o <;> simp [hrun] at h
  | frozen a k ih =>
    intro xs x xs' h
    unfold hrun at h
    split at h
    · split at h
      · split at h
        · (have := ih _ _ _ _ h; exact this)
        · cases h
      · cases h
    · cases h
  | shape r k ih =>
    intro xs x xs' h
    unfold hrun at h
    split at h
    · split at h
      · (have := ih _ _ _ _ h; exact this)
      · cases h
    · cases h
  | freeze a n k ih =>
    intro xs x xs' h
    unfold hrun at h
    split at h
    · exact ih _ _ _ h
    · cases h
  | getObj r k ih => intro xs x xs' h; simp [hrun] at h
  | setObj r o k ih => intro xs x xs' h; simp [hrun] at h
  | choose q k ih => intro xs x xs' h; simp [hrun] at h
  | sys c k ih => intro xs x xs' h; simp [hrun] at h
  | halt h => intro xs x xs' h; simp [hrun] at h

theorem hrun_quiet_H {α : Type} {P : Program} (s : Sem α) : ∀ (xs : XS) (x : α) (xs' : XS), hrun P true s xs = some (x, xs') → xs'.H = xs.H := by
  induction s with
  | pure a => intro xs x xs' h; simp only [hrun, Option.some.injEq, Prod.mk.injEq] at h; obtain ⟨rfl, rfl⟩ := h; rfl
  | program k ih => intro xs x xs' h; (have := ih _ _ _ _ h; exact this)
  | mark m k ih => intro xs x xs' h; exact ih _ _ _ h
  | load m a k ih =>
    intro xs x xs' h
    unfold hrun at h
    split at h
    · split at h
      · split at h
        · (have := ih _ _ _ _ h; exact this)
        · cases h
      · cases h
    · (have := ih _ _ _ _ h; exact this)
    · cases h
  | store m a v k ih => intro xs x xs' h; simp [hrun] at h
  | new o k ih => intro xs x xs' h; cases o <;> simp [hrun] at h
  | frozen a k ih =>
    intro xs x xs' h
    unfold hrun at h
    split at h
    · split at h
      · split at h
        · (have := ih _ _ _ _ h; exact this)
        · cases h
      · cases h
    · cases h
  | shape r k ih =>
    intro xs x xs' h
    unfold hrun at h
    split at h
    · split at h
      · (have := ih _ _ _ _ h; exact this)
      · cases h
    · cases h
  | freeze a n k ih =>
    intro xs x xs' h
    unfold hrun at h
    split at h
    · exact ih _ _ _ h
    · cases h
  | getObj r k ih => intro xs x xs' h; simp [hrun] at h
  | setObj r o k ih => intro xs x xs' h; simp [hrun] at h
  | choose q k ih => intro xs x xs' h; simp [hrun] at h
  | sys c k ih => intro xs x xs' h; simp [hrun] at h
  | halt h => intro xs x xs' h; simp [hrun] at h

def FnOk (P : Program) (f : FuncId) (fi : FnI) : Prop := (∀ args w, (callFunc f args).run P w = .ok (.enter f args) w) ∧ ∃ fn, P.funcs[f]? = some fn ∧ fn.body = some fi.body ∧ fn.ntmps = fi.n ∧ fn.results = fi.res.toArray
structure Known (P : Program) (fns : Fns) : Prop where
  mixed : P.follows .mixedOrders = true
  fns : ∀ p ∈ fns, FnOk P p.1 p.2

section
variable {P : Program} {ds : List Deferred} {B : World} {pre : List Nat} {φ : Fz} {fns : Fns}

def Grown (s s' : XS) : Prop := (∃ l, s'.eqs = l ++ s.eqs) ∧ (∃ l, s'.olds = l ++ s.olds) ∧ (∃ l, s'.ones = l ++ s.ones)
theorem Grown.refl (s : XS) : Grown s s := ⟨⟨[], rfl⟩, ⟨[], rfl⟩, ⟨[], rfl⟩⟩
theorem Grown.trans {a b c : XS} (h : Grown a b) (k : Grown b c) : Grown a c := by
  obtain ⟨⟨x, hx⟩, ⟨y, hy⟩, ⟨z, hz⟩⟩ := h
  obtain ⟨⟨x', hx'⟩, ⟨y', hy'⟩, ⟨z', hz'⟩⟩ := k
  exact ⟨⟨x' ++ x, by rw [hx', hx, List.append_assoc]⟩, ⟨y' ++ y, by rw [hy', hy, List.append_assoc]⟩, ⟨z' ++ z, by rw [hz', hz, List.append_assoc]⟩⟩
theorem XOk.of {s s' : XS} (h : XOk φ s') (g : Grown s s') : XOk φ s := h.back g.1 g.2.1 g.2.2
theorem XPost.refl {q : Bool} {s : XS} {w : World} (hm : Mem B pre φ s.H w) (hf : Fresh s.fresh w) : XPost B pre φ q s s w w := ⟨hm, Ch.refl w, hf, ⟨[], by simp, by simp⟩, fun _ => ⟨rfl, rfl⟩⟩
theorem XPost.trans {q : Bool} {xs ys zs : XS} {w w1 w2 : World} (h1 : XPost B pre φ q xs ys w w1) (h : XPost B pre φ q ys zs w1 w2) : XPost B pre φ q xs zs w w2 := XPost.step h1.ch h1.names h1.still h

theorem look_filter {d t : Nat} {u : Value} : ∀ {F : Fr}, Look (F.filter (fun p => !(Nat.beq p.1 d))) t u → Nat.beq d t = false → Look F t u
  | [], h, _ => by cases h
  | (e, x) :: r, h, hd => by
    rw [List.filter_cons] at h
    split at h
    · rename_i he
      cases h with
      | here => exact .here
      | there h1 k => exact .there h1 (look_filter k hd)
    · rename_i he
      have he : e = d := by simpa using he
      subst he
      exact .there hd (look_filter h hd)
theorem XPost.hint {s : XS} {w : World} (hm : Mem B pre φ s.H w) (hf : Fresh s.fresh w) (hs : List Hint) : XPost B pre φ false s { s with hints := hs } w w.drew := ⟨hm.no (Ch.drew1 w), Ch.drew1 w, hf, ⟨[], by simp, by simp⟩, fun h => by cases h⟩
theorem Rep.setF {n : Nat} {F : Fr} {a : Act} {d : Nat} {v : Value} (h : Rep n ds F a) (hd : Nat.blt d n = true) : Rep n ds (Eng.setF F d v) (a.put (some d) v) := by
  have hp := h.put hd (v := v)
  refine ⟨hp.size, hp.defers, fun t u hl => ?_⟩
  cases hl with
  | here => exact hp.knows _ _ .here
  | there hne k => exact hp.knows _ _ (.there hne (look_filter k hne))
theorem putC_sound {n : Nat} {F F' : Fr} {d : Option Nat} {v : Value} {s s' : XS} {a : Act} (h : putC n F d v s = some (F', s')) (ha : Rep n ds F a) : s' = s ∧ Rep n ds F' (a.put d v) := by
  unfold putC at h
  split at h
  · split at h
    · rename_i hb; cases h; exact ⟨rfl, ha.setF hb⟩
    · cases h
  · cases h; exact ⟨rfl, ha⟩
theorem evAll_eq {F : Fr} : ∀ {xs : List Operand} {vs : List Value}, evAll F xs = some vs → Evs F xs vs
  | [], vs, h => by cases h; exact .nil
  | x :: r, vs, h => by
    unfold evAll at h
    split at h
    · rename_i v us h1 h2; cases h; exact .cons (evE h1) (evAll_eq h2)
    · cases h

theorem resV_sound {F : Fr} {a : Act} {w : World} (ha : Knows F a) : ∀ (rs : List ResultVar) {s s' : XS} {vs : List Value}, resV P F rs s = some (vs, s') → Grown s s' ∧ (Mem B pre φ s.H w → Fresh s.fresh w → XOk φ s' →
    (rs.mapM (m := Sem) fun | .tmp t => pure (a.tmps.getD t undef) | .cell p t => do loadVar t (← asAddr (a.tmps.getD p undef))).run P w = .ok vs w ∧ s'.H = s.H ∧ s'.fresh = s.fresh)
  | [], s, s', vs, h => by cases h; exact ⟨Grown.refl _, fun _ _ _ => ⟨rfl, rfl, rfl⟩⟩
  | .tmp t :: r, s, s', vs, h => by
    unfold resV at h
    split at h
    · rename_i v hv
      split at h
      · rename_i us s2 h2
        cases h
        obtain ⟨g, k⟩ := resV_sound ha r h2
        refine ⟨g, fun hm hf hk => ?_⟩
        obtain ⟨h3, h4, h5⟩ := k hm hf hk
        refine ⟨?_, h4, h5⟩
        have hget : a.tmps.getD t undef = v := by rw [Array.getD_eq_getD_getElem?, ha _ _ (lk_look hv)]; rfl
        rw [List.mapM_cons, Sem.run_bind]
        simp only [hget, Sem.run_pure, Result.andThen_ok, Sem.run_bind, h3]
      · cases h
    · cases h
  | .cell t T :: r, s, s', vs, h => by
    unfold resV at h
    split at h
    · rename_i p hv
      split at h
      · rename_i v s1 h1
        split at h
        · rename_i us s2 h2
          cases h
          obtain ⟨g, k⟩ := resV_sound (s := s1) ha r h2
          have g1 : Grown s s1 := hrun_grow _ _ _ _ h1
          refine ⟨g1.trans g, fun hm hf hk => ?_⟩
          obtain ⟨w1, hr, hp⟩ := hrun_sound _ _ _ _ _ h1 hm hf (hk.of g)
          obtain ⟨rfl, hH⟩ := hp.still rfl
          obtain ⟨h3, h4, h5⟩ := k (by rw [hH]; exact hm) hp.fresh hk
          have hfr : s1.fresh = s.fresh := hrun_quiet_fresh _ _ _ _ h1
          refine ⟨?_, h4.trans hH, h5.trans hfr⟩
          have hget : a.tmps.getD t undef = .pointer (some p) := by rw [Array.getD_eq_getD_getElem?, ha _ _ (lk_look hv)]; rfl
          have hasA : asAddr (a.tmps.getD t undef) = pure p := by rw [hget]; rfl
          rw [List.mapM_cons, Sem.run_bind]
          simp only [hasA, Sem.run_bind, Sem.run_pure, Result.andThen_ok, hr, h3]
        · cases h
      · cases h
    · cases h

/-- What a piece of code that has been carried out comes to. -/
def CROk (P : Program) (ds : List Deferred) (B : World) (pre : List Nat) (φ : Fz) (rc : CR) : Prop :=
  ∀ (q : Bool) (n : Nat) (c : Code) (F : Fr) (s : XS) (e : Exit) (F' : Fr) (s' : XS), rc q n c F s = some (e, F', s') → Grown s s' ∧ ∀ (w : World) (Q : Exit → Act → World → Prop), Mem B pre φ s.H w → Fresh s.fresh w → XOk φ s' →
    (∀ w', XPost B pre φ q s s' w w' → JE n ds e Q F' w') → JC P n ds c Q F w

theorem results_run {fn : Func} {rs : List ResultVar} {a : Act} {vs : List Value} {w : World} (hr : fn.results = rs.toArray)
    (h : (rs.mapM (m := Sem) fun | .tmp t => pure (a.tmps.getD t undef) | .cell p t => do loadVar t (← asAddr (a.tmps.getD p undef))).run P w = .ok vs w) : (results fn a.tmps).run P w = .ok (tup vs) w := by
  have key : ∀ (g : ResultVar → Sem Value), (rs.mapM g).run P w = .ok vs w → ((do let us ← Array.mapM g rs.toArray; pure (if h : us.size = 1 then us[0] else Value.tuple us)) : Sem Value).run P w = .ok (tup vs) w := by
    intro g hg
    rw [List.mapM_toArray]
    have e : (do let us ← (List.toArray <$> rs.mapM g : Sem (Array Value)); pure (if h : us.size = 1 then us[0] else Value.tuple us) : Sem Value).run P w = (do let us ← rs.mapM g; pure (if h : us.toArray.size = 1 then us.toArray[0] else Value.tuple us.toArray) : Sem Value).run P w := by
      simp [Sem.run_bind, hg]
    rw [e]
    simp only [Sem.run_bind, hg, Result.andThen_ok, Sem.run_pure]
    congr 1
    match vs with
    | [] => rfl
    | [v] => rfl
    | u :: v :: r => simp [tup]
  unfold results
  rw [hr]
  exact key _ h

theorem ccall_sound {rc : CR} (hK : Known P fns) (hrc : CROk P [] B pre φ rc) {q : Bool} {f : FuncId} {vs : List Value} {s s' : XS} {v : Value} (h : ccall P fns rc q f vs s = some (v, s')) :
    Grown s s' ∧ ∀ w, Mem B pre φ s.H w → Fresh s.fresh w → XOk φ s' →
      (∃ w', (callFunc f vs.toArray).run P w = .ok (.value v) w' ∧ XPost B pre φ q s s' w w') ∨ ((callFunc f vs.toArray).run P w = .ok (.enter f vs.toArray) w ∧ Calls P f vs.toArray w fun e w' => e = .returned v ∧ XPost B pre φ q s s' w w') := by
  unfold ccall at h
  split at h
  · rename_i fi hfi
    obtain ⟨hc, fn, hfn, hb, hn, hr⟩ := hK.fns _ (aget_mem hfi)
    split at h
    · rename_i hle
      have main : ∀ {e : Exit} {F' : Fr} {s1 s2 : XS} {rs : List Value}, (e = .ret ∨ e = .normal) → rc q fi.n fi.body (numbered 0 vs) s = some (e, F', s1) → resV P F' fi.res s1 = some (rs, s2) →
          Grown s s2 ∧ ∀ w, Mem B pre φ s.H w → Fresh s.fresh w → XOk φ s2 → (callFunc f vs.toArray).run P w = .ok (.enter f vs.toArray) w ∧ Calls P f vs.toArray w fun e w' => e = .returned (tup rs) ∧ XPost B pre φ q s s2 w w' := by
        intro e F' s1 s2 rs he h1 h2
        obtain ⟨g1, k1⟩ := hrc _ _ _ _ _ _ _ _ h1
        have g2 : Grown s1 s2 := by
          clear k1 he h1 h hle g1
          generalize fi.res = l at h2
          revert s1 s2 rs
          induction l with
          | nil => intro s1 s2 rs h; cases h; exact Grown.refl _
          | cons r l ih =>
            intro s1 s2 rs h
            unfold resV at h
            cases r with
            | tmp t =>
              simp only at h
              split at h
              · split at h
                · rename_i h2; cases h; exact ih h2
                · cases h
              · cases h
            | cell t T =>
              simp only at h
              split at h
              · split at h
                · rename_i h1
                  split at h
                  · rename_i h2; cases h; exact Grown.trans (hrun_grow _ _ _ _ h1) (ih h2)
                  · cases h
                · cases h
              · cases h
        refine ⟨g1.trans g2, fun w hm hf hk => ⟨hc _ _, ?_⟩⟩
        refine calls (n := fi.n) hfn hb hn hle ?_
        refine k1 w _ hm hf (hk.of g2) fun w1 hp a ha => ?_
        obtain ⟨-, k2⟩ := resV_sound ha.knows fi.res h2
        obtain ⟨h3, h4, h5⟩ := k2 hp.mem hp.fresh hk
        have hres := results_run hr h3
        have hp2 : XPost B pre φ q s s2 w w1 := ⟨by rw [h4]; exact hp.mem, hp.ch, by rw [h5]; exact hp.fresh, by rw [h4]; exact hp.names, by rw [h4]; exact hp.still⟩
        rcases he with rfl | rfl
        · exact bodyPost_ret hres ha.defers ⟨rfl, hp2⟩
        · exact bodyPost_end hres ha.defers ⟨rfl, hp2⟩
      split at h
      · rename_i F' s1 h1
        split at h
        · rename_i rs s2 h2; cases h
          obtain ⟨g, k⟩ := main (.inl rfl) h1 h2
          exact ⟨g, fun w hm hf hk => .inr (k w hm hf hk)⟩
        · cases h
      · rename_i F' s1 h1
        split at h
        · rename_i rs s2 h2; cases h
          obtain ⟨g, k⟩ := main (.inr rfl) h1 h2
          exact ⟨g, fun w hm hf hk => .inr (k w hm hf hk)⟩
        · cases h
      · cases h
    · cases h
  · split at h
    · rename_i v1 s1 h1
      cases h
      refine ⟨hrun_grow _ _ _ _ h1, fun w hm hf hk => .inl ?_⟩
      obtain ⟨w', hr, hp⟩ := hrun_sound _ _ _ _ _ h1 hm hf hk
      exact ⟨w', hr, hp⟩
    · cases h

theorem asCall_eq {op : Op} {c : Operand} {xs : Array Operand} {ts : Array TypeId} (h : asCall op = some (c, xs, ts)) : op = .call ⟨.value c, xs, ts⟩ := by
  cases op with
  | call k =>
    obtain ⟨cl, ys, us⟩ := k
    cases cl <;> simp only [asCall] at h <;> cases h
    rfl
  | _ => cases h
def Comes1 (P : Program) (ds : List Deferred) (B : World) (pre : List Nat) (φ : Fz) (q : Bool) (n : Nat) (ops : Array Oper) (F' : Fr) (o : Oper) (s s' : XS) (a : Act) (w : World) : Prop :=
  (Region.wanted o (yielded ops a.tmps) = false ∧ Rep n ds F' (a.put o.dst undef) ∧ s' = s) ∨
  (Region.wanted o (yielded ops a.tmps) = true ∧ ∃ v, Rep n ds F' (a.put o.dst v) ∧
    ((∃ w', (execOp a.eval o).run P w = .ok (.value v) w' ∧ XPost B pre φ q s s' w w') ∨ (v = undef ∧ ∃ w', (execOp a.eval o).run P w = .ok .skip w' ∧ XPost B pre φ q s s' w w') ∨
     (∃ f args, (execOp a.eval o).run P w = .ok (.enter f args) w ∧ Calls P f args w fun e w' => e = .returned v ∧ XPost B pre φ q s s' w w')))
theorem cop_sound {rc : CR} (hK : Known P fns) (hrc : ∀ ds, CROk P ds B pre φ rc) {q : Bool} {n : Nat} {ops : Array Oper} {F F' : Fr} {o : Oper} {s s' : XS} (h : cop P fns rc q n ops F o s = some (F', s')) :
    Grown s s' ∧ ∀ w a, Mem B pre φ s.H w → Fresh s.fresh w → XOk φ s' → Rep n ds F a → Comes1 P ds B pre φ q n ops F' o s s' a w := by
  unfold cop at h
  split at h
  · cases h
  · rename_i hw
    have hs : s' = s := by
      unfold putC at h
      split at h
      · split at h
        · cases h; rfl
        · cases h
      · cases h; rfl
    refine ⟨hs ▸ Grown.refl _, fun w a hm hf hk ha => .inl ⟨wantF_eq hw ha.knows, (putC_sound h ha).2, hs⟩⟩
  · rename_i hw
    split at h
    · rename_i c xs ts hc
      have hop := asCall_eq hc
      split at h
      · rename_i f fs cs vs hcv hvs
        split at h
        · rename_i v s1 h1
          obtain ⟨g, k⟩ := ccall_sound hK (hrc []) h1
          have hs : s' = s1 := by
            unfold putC at h
            split at h
            · split at h
              · cases h; rfl
              · cases h
            · cases h; rfl
          subst hs
          refine ⟨g, fun w a hm hf hk ha => .inr ⟨wantF_eq hw ha.knows, v, (putC_sound h ha).2, ?_⟩⟩
          have hrun : (execOp a.eval o).run P w = (callFunc f (fs.toList ++ vs ++ cs.toList).toArray).run P w := by
            obtain ⟨dst, op, ty, pos, af, gd⟩ := o
            have hop : op = _ := hop
            subst hop
            have e1 := (evE hcv).eq ha.knows
            have e2 := (evAll_eq hvs).eq ha.knows
            have e3 : xs.map a.eval = vs.toArray := by
              rw [← e2]; exact Array.ext' (by simp)
            have e4 : (fs.toList ++ vs ++ cs.toList).toArray = fs ++ vs.toArray ++ cs := Array.ext' (by simp)
            rw [e4]
            simp [execOp, resolve, Deferred.ofValue, invoke, e1, e3]
          rcases k w hm hf hk with ⟨w1, hr, hp⟩ | ⟨hr, hcl⟩
          · exact .inl ⟨w1, by rw [hrun]; exact hr, hp⟩
          · exact .inr (.inr ⟨f, _, by rw [hrun]; exact hr, hcl⟩)
        · cases h
      · cases h
    · split at h
      · cases h
      rename_i hcn hs
      simp only [Bool.or_eq_true, Bool.not_eq_true', not_or, Bool.not_eq_false] at hs
      obtain ⟨hsel, hall⟩ := hs
      have hex : ∀ {a : Act}, Knows F a → execOp a.eval o = execOp (evF F) o := fun ha => execOp_congr o (fun cs b e => by rw [e] at hsel; exact hsel rfl) (fun x hx => evF_eq ha ((Array.all_eq_true_iff_forall_mem.1 hall) x hx))
      split at h
      · rename_i v s1 h1
        have hs : s' = s1 := by
          unfold putC at h
          split at h
          · split at h
            · cases h; rfl
            · cases h
          · cases h; rfl
        subst hs
        refine ⟨hrun_grow _ _ _ _ h1, fun w a hm hf hk ha => .inr ⟨wantF_eq hw ha.knows, v, (putC_sound h ha).2, ?_⟩⟩
        obtain ⟨w', hr, hp⟩ := hrun_sound _ _ _ _ _ h1 hm hf hk
        exact .inl ⟨w', by rw [hex ha.knows]; exact hr, hp⟩
      · rename_i s1 h1
        split at h
        · rename_i hd
          cases h
          refine ⟨hrun_grow _ _ _ _ h1, fun w a hm hf hk ha => .inr ⟨wantF_eq hw ha.knows, undef, by rw [hd]; exact ha, ?_⟩⟩
          obtain ⟨w', hr, hp⟩ := hrun_sound _ _ _ _ _ h1 hm hf hk
          exact .inr (.inl ⟨rfl, w', by rw [hex ha.knows]; exact hr, hp⟩)
        · cases h
      · cases h

theorem cops_sound {rc : CR} (hK : Known P fns) (hrc : ∀ ds, CROk P ds B pre φ rc) {q : Bool} {n : Nat} {ops : Array Oper} : ∀ (l : List Oper) {F F' : Fr} {s s' : XS}, cops P fns rc q n ops l F s = some (F', s') →
    Grown s s' ∧ ∀ w (Q : Exit → Act → World → Prop), Mem B pre φ s.H w → Fresh s.fresh w → XOk φ s' → (∀ w', XPost B pre φ q s s' w w' → JE n ds .normal Q F' w') → JL P n ds ops Q l F w
  | [], F, F', s, s', h => by cases h; exact ⟨Grown.refl _, fun w Q hm hf hk k => JL.nil (k w (XPost.refl hm hf))⟩
  | o :: r, F, F', s, s', h => by
    unfold cops at h
    split at h
    · rename_i F1 s1 h1
      obtain ⟨g1, k1⟩ := cop_sound (ds := ds) hK hrc h1
      obtain ⟨g2, k2⟩ := cops_sound hK hrc r h
      refine ⟨g1.trans g2, fun w Q hm hf hk k a ha => ?_⟩
      have hk1 := hk.of g2
      rcases k1 w a hm hf hk1 ha with ⟨hw, hr, he⟩ | ⟨hw, v, hr, hc⟩
      · subst he
        refine wpList_step fun K hK => ?_
        rw [if_neg (by simp [hw])]
        exact hK _ _ (k2 w Q hm hf hk k _ hr)
      · refine wpList_step fun K hK => ?_
        rw [if_pos hw]
        show Oper.upon P o a K Q _
        rcases hc with ⟨w', hrun, hp⟩ | ⟨rfl, w', hrun, hp⟩ | ⟨f, args, hrun, hcl⟩
        · rw [hrun]; exact hK _ _ (k2 w' Q hp.mem hp.fresh hk (fun w2 hp2 => k w2 (hp.trans hp2)) _ hr)
        · rw [hrun]; exact hK _ _ (k2 w' Q hp.mem hp.fresh hk (fun w2 hp2 => k w2 (hp.trans hp2)) _ hr)
        · rw [hrun, Oper.upon_enter]
          refine hcl.mono fun e w' he => ?_
          obtain ⟨rfl, hp⟩ := he
          exact hK _ _ (k2 w' Q hp.mem hp.fresh hk (fun w2 hp2 => k w2 (hp.trans hp2)) _ hr)
    · cases h
theorem cops_still {rc : CR} (hK : Known P fns) (hrc : ∀ ds, CROk P ds B pre φ rc) {n : Nat} {ops : Array Oper} : ∀ (l : List Oper) {F F' : Fr} {s s' : XS}, cops P fns rc true n ops l F s = some (F', s') →
    ∀ w (K : Act → Prop), Mem B pre φ s.H w → Fresh s.fresh w → XOk φ s' → (XPost B pre φ true s s' w w → ∀ a, Rep n ds F' a → K a) → ∀ a, Rep n ds F a → wpStill P ops w K l a
  | [], F, F', s, s', h => by cases h; exact fun w K hm hf hk k a ha => k (XPost.refl hm hf) a ha
  | o :: r, F, F', s, s', h => by
    unfold cops at h
    split at h
    · rename_i F1 s1 h1
      obtain ⟨g1, k1⟩ := cop_sound (ds := ds) hK hrc h1
      have g2 := (cops_sound (ds := ds) hK hrc r h).1
      intro w K hm hf hk k a ha
      have hk1 := hk.of g2
      have next := cops_still hK hrc r h
      rcases k1 w a hm hf hk1 ha with ⟨hw, hr, he⟩ | ⟨hw, v, hr, hc⟩
      · subst he
        refine wpStill_step fun K' hK' => ?_
        rw [if_neg (by simp [hw])]
        exact hK' _ (next w K hm hf hk k _ hr)
      · refine wpStill_step fun K' hK' => ?_
        rw [if_pos hw]
        show Oper.stillUpon P o a w K' _
        rcases hc with ⟨w', hrun, hp⟩ | ⟨rfl, w', hrun, hp⟩ | ⟨f, args, hrun, hcl⟩
        · obtain ⟨rfl, hH⟩ := hp.still rfl
          rw [hrun]
          exact ⟨rfl, hK' _ (next _ K hp.mem hp.fresh hk (fun hp2 => k (hp.trans hp2)) _ hr)⟩
        · obtain ⟨rfl, hH⟩ := hp.still rfl
          rw [hrun]
          exact ⟨rfl, hK' _ (next _ K hp.mem hp.fresh hk (fun hp2 => k (hp.trans hp2)) _ hr)⟩
        · rw [hrun]
          obtain ⟨e, w1, -, ⟨rfl, hp⟩, -⟩ := hcl []
          obtain ⟨rfl, hH⟩ := hp.still rfl
          exact ⟨rfl, v, hcl.mono (fun e w' he => ⟨he.1, (he.2.still rfl).1⟩), hK' _ (next _ K hp.mem hp.fresh hk (fun hp2 => k (hp.trans hp2)) _ hr)⟩
    · cases h

theorem pureV_sound {F : Fr} {ops : Array Oper} {o : Oper} {v : Value} (h : pureV P ops F o = some v) {a : Act} (ha : Knows F a) : YieldsI P ops (fun _ => True) o v a := by
  unfold pureV at h
  split at h
  · cases h
  · rename_i hw; cases h; exact .inr ⟨wantF_eq hw ha, rfl⟩
  · rename_i hw
    split at h
    · cases h
    split at h
    · cases h
    rename_i hcn hs
    simp only [Bool.or_eq_true, Bool.not_eq_true', not_or, Bool.not_eq_false] at hs
    obtain ⟨hsel, hall⟩ := hs
    have hex : execOp a.eval o = execOp (evF F) o := execOp_congr o (fun cs b e => by rw [e] at hsel; exact hsel rfl) (fun x hx => evF_eq ha ((Array.all_eq_true_iff_forall_mem.1 hall) x hx))
    split at h
    · rename_i u s2 he
      cases h
      refine .inl ⟨wantF_eq hw ha, fun w _ => .inl ?_⟩
      have hg := hrun_grow _ _ _ _ he
      have hok : XOk (fun _ _ => none) s2 → ∃ w', (execOp (evF F) o).run P w = .ok (.value v) w' ∧ XPost w [] (fun _ _ => none) true ⟨[], [], [], [], [], []⟩ s2 w w' := fun hk => hrun_sound _ _ _ _ _ he (Mem.nil [] (Agree.none w)) (by intro i b hb; simp at hb) hk
      obtain ⟨w', hr, hp⟩ := hok (hrun_empty _ _ _ he)
      rw [hex, hr, (hp.still rfl).1]
    · cases h
theorem pick1_some {n : Nat} {ops : Array Oper} {L : Array Bool} {F : Fr} : ∀ {l : List Nat} {j d : Nat} {v : Value}, pick1 P n ops L F l = some (j, d, v) → j ∈ l ∧ Region.free .any ops L j = true ∧ Nat.blt d n = true ∧ ∃ o, ops[j]? = some o ∧ o.dst = some d ∧ pureV P ops F o = some v
  | [], j, d, v, h => by cases h
  | i :: r, j, d, v, h => by
    have next : pick1 P n ops L F r = some (j, d, v) → _ := fun h => by
      obtain ⟨h1, h2⟩ := pick1_some h
      exact (⟨List.mem_cons_of_mem _ h1, h2⟩ : j ∈ i :: r ∧ _)
    unfold pick1 at h
    split at h
    · rename_i o ho
      split at h
      · rename_i d' hfree hd
        split at h
        · rename_i hb
          split at h
          · rename_i u hu; cases h; exact ⟨List.mem_cons_self, hfree, hb, o, ho, hd, hu⟩
          · exact next h
        · exact next h
      · exact next h
    · exact next h
theorem cany_sound {rc : CR} (hK : Known P fns) (hrc : ∀ ds, CROk P ds B pre φ rc) {n : Nat} {ops : Array Oper} (hsel : Region.noSelect ops = true) : ∀ (f : Nat) {L : Array Bool} {F F' : Fr} {s s' : XS}, cany P fns rc n ops f L F s = some (F', s') →
    Grown s s' ∧ ∀ w (K : Act → World → Prop), Mem B pre φ s.H w → Fresh s.fresh w → XOk φ s' → (∀ w', XPost B pre φ false s s' w w' → ∀ a, Rep n ds F' a → K a w') → ∀ a, Rep n ds F a → wpI P .any ops (fun _ => True) K f L a w
  | 0, L, F, F', s, s', h => by
    unfold cany at h
    split at h
    · rename_i hr
      cases h
      exact ⟨Grown.refl _, fun w K hm hf hk k a ha => ⟨trivial, by simpa using hr, k w (XPost.refl hm hf) a ha⟩⟩
    · cases h
  | f + 1, L, F, F', s, s', h => by
    unfold cany at h
    split at h
    · rename_i hr
      cases h
      exact ⟨Grown.refl _, fun w K hm hf hk k a ha => ⟨trivial, fun _ => k w (XPost.refl hm hf) a ha, fun i hi => by rw [hr] at hi; cases hi⟩⟩
    · rename_i i r hr
      split at h
      · rename_i j d v hp
        obtain ⟨hj, hfree, hb, o, ho, hd, hv⟩ := pick1_some hp
        obtain ⟨g, k1⟩ := cany_sound hK hrc hsel f h
        refine ⟨g, fun w K hm hf hk k a ha => ?_⟩
        exact wpI_first ho (Region.noSelect_spec hsel) f L a w (Region.free_spec ho hfree) (by rw [hr]; exact hj) (pureV_sound hv ha.knows) (k1 w K hm hf hk k _ (by rw [hd]; exact ha.setF hb))
      · split at h
        · split at h
          · rename_i o ho
            split at h
            · rename_i F1 s1 h1
              obtain ⟨g1, k1⟩ := cop_sound (ds := ds) hK hrc h1
              obtain ⟨g2, k2⟩ := cany_sound hK hrc hsel f h
              refine ⟨g1.trans g2, fun w K hm hf hk k a ha => ⟨trivial, (fun h0 => by rw [hr] at h0; cases h0), fun j hj => ?_⟩⟩
              rw [hr] at hj
              obtain rfl : j = i := by simpa using hj
              rcases k1 w a hm hf (hk.of g2) ha with ⟨hw, hrep, he⟩ | ⟨hw, v, hrep, hc⟩
              · subst he
                exact ⟨o, ho, .inr ⟨hw, k2 w K hm hf hk k _ hrep⟩⟩
              · refine ⟨o, ho, .inl ⟨hw, ?_⟩⟩
                rcases hc with ⟨w', hrun, hp⟩ | ⟨rfl, w', hrun, hp⟩ | ⟨fn, args, hrun, hcl⟩
                · exact .inl ⟨v, w', hrun, k2 w' K hp.mem hp.fresh hk (fun w2 hp2 => k w2 (hp.trans hp2)) _ hrep⟩
                · exact .inr (.inl ⟨w', hrun, k2 w' K hp.mem hp.fresh hk (fun w2 hp2 => k w2 (hp.trans hp2)) _ hrep⟩)
                · exact .inr (.inr ⟨fn, args, w, hrun, hcl.mono fun e w' he => ⟨v, he.1, k2 w' K he.2.mem he.2.fresh hk (fun w2 hp2 => k w2 (he.2.trans hp2)) _ hrep⟩⟩)
            · cases h
          · cases h
        · cases h
theorem cloop_sound {rc : CR} (hrc : CROk P ds B pre φ rc) {q : Bool} {n : Nat} {c : Code} : ∀ (m : Nat) {F F' : Fr} {s s' : XS} {e : Exit}, cloop rc q n c m F s = some (e, F', s') → Grown s s' ∧ ∀ w (Q : Exit → Act → World → Prop), Mem B pre φ s.H w → Fresh s.fresh w → XOk φ s' →
    (∀ w', XPost B pre φ q s s' w w' → JE n ds e Q F' w') → ∀ a, Rep n ds F a → Code.rounds P c Q m a w
  | 0, F, F', s, s', e, h => by cases h
  | m + 1, F, F', s, s', e, h => by
    unfold cloop at h
    split at h
    · rename_i F1 s1 h1
      obtain ⟨g1, k1⟩ := hrc _ _ _ _ _ _ _ _ h1
      obtain ⟨g2, k2⟩ := cloop_sound hrc m h
      refine ⟨g1.trans g2, fun w Q hm hf hk k a ha => ?_⟩
      rw [rounds_succ]
      exact k1 w _ hm hf (hk.of g2) (fun w1 hp a1 ha1 => k2 w1 Q hp.mem hp.fresh hk (fun w2 hp2 => k w2 (hp.trans hp2)) a1 ha1) a ha
    · rename_i hne
      obtain ⟨g1, k1⟩ := hrc _ _ _ _ _ _ _ _ h
      refine ⟨g1, fun w Q hm hf hk k a ha => ?_⟩
      rw [rounds_succ]
      refine k1 w _ hm hf hk (fun w1 hp a1 ha1 => ?_) a ha
      have := k w1 hp a1 ha1
      cases e with
      | normal => exact absurd h (hne _ _)
      | _ => exact this

/-- What holds behind a scope's body, with so many jumps left. -/
def ScopeK (P : Program) (c : Code) (Q : Exit → Act → World → Prop) : Nat → Exit → Act → World → Prop
  | 0, .goto _, _, _ => False
  | k + 1, .goto l, a, w => ∃ rest, findLabel c l = some rest ∧ rest.wp P (ScopeK P c Q k) a w
  | _, e, a, w => Q e a w
theorem wp_scopeK {c : Code} {Q : Exit → Act → World → Prop} (k : Nat) {a : Act} {w : World} (h : c.wp P (ScopeK P c Q k) a w) : (Code.scope c).wp P Q a w := by
  intro b it cs
  have main : ∀ (k : Nat) (m : Machine) (e : Exit) (a₁ : Act) (w₁ : World), ScopeK P c Q k e a₁ w₁ → Arrives P m b (.inScope c :: it) cs e a₁ w₁ → ∃ e a' w', Q e a' w' ∧ Arrives P m b it cs e a' w' := by
    intro k
    induction k with
    | zero =>
      intro m e a₁ w₁ hq harr
      cases e with
      | normal => exact ⟨.normal, a₁, w₁, hq, Steps.trans harr (.one step_inScope)⟩
      | exit id => exact ⟨.exit id, a₁, w₁, hq, fun k' hk => harr k' (by simp [exitTo, hk])⟩
      | goto l => exact hq.elim
      | ret => exact ⟨_, a₁, w₁, hq, harr⟩
      | panic ch => exact ⟨_, a₁, w₁, hq, harr⟩
      | outgrown => exact ⟨_, a₁, w₁, hq, harr⟩
    | succ k ih =>
      intro m e a₁ w₁ hq harr
      cases e with
      | normal => exact ⟨.normal, a₁, w₁, hq, Steps.trans harr (.one step_inScope)⟩
      | exit id => exact ⟨.exit id, a₁, w₁, hq, fun k' hk => harr k' (by simp [exitTo, hk])⟩
      | goto l =>
        obtain ⟨rest, hf, hw⟩ := hq
        have hg : gotoIn l (.inScope c :: it) = some (.code rest :: .inScope c :: it) := by simp [gotoIn, hf]
        obtain ⟨e2, a2, w2, hq2, harr2⟩ := hw b (.inScope c :: it) cs
        exact ih m e2 a2 w2 hq2 (.of_steps (harr _ hg) harr2)
      | ret => exact ⟨_, a₁, w₁, hq, harr⟩
      | panic ch => exact ⟨_, a₁, w₁, hq, harr⟩
      | outgrown => exact ⟨_, a₁, w₁, hq, harr⟩
  obtain ⟨e, a₁, w₁, hq, harr⟩ := h b (.inScope c :: it) cs
  obtain ⟨e2, a2, w2, hq2, harr2⟩ := main k _ e a₁ w₁ hq harr
  exact ⟨e2, a2, w2, hq2, .of_steps (.one step_scope) harr2⟩
theorem ScopeK.of {c : Code} {Q : Exit → Act → World → Prop} : ∀ (k : Nat) {e : Exit} {a : Act} {w : World}, (∀ l, e ≠ .goto l) → Q e a w → ScopeK P c Q k e a w
  | k, e, a, w, hne, h => by
    cases e with
    | goto l => exact absurd rfl (hne l)
    | _ => cases k <;> exact h

theorem cscope_sound {rc : CR} (hrc : CROk P ds B pre φ rc) {q : Bool} {n : Nat} {c : Code} : ∀ (k : Nat) {F F' : Fr} {s s' : XS} {d : Code} {e : Exit}, cscope rc q n c k (rc q n d F s) = some (e, F', s') → Grown s s' ∧ ∀ w (Q : Exit → Act → World → Prop), Mem B pre φ s.H w → Fresh s.fresh w → XOk φ s' →
    (∀ w', XPost B pre φ q s s' w w' → JE n ds e Q F' w') → JC P n ds d (ScopeK P c Q k) F w
  | 0, F, F', s, s', d, e, h => by
    cases h0 : rc q n d F s with
    | none => rw [h0] at h; cases h
    | some r =>
      obtain ⟨e1, F1, s1⟩ := r
      rw [h0] at h
      have he : (∀ l, e1 ≠ .goto l) ∧ (e, F', s') = (e1, F1, s1) := by
        cases e1 <;> simp only [cscope] at h <;> cases h <;> exact ⟨(fun l h => by cases h), rfl⟩
      obtain ⟨hne, he⟩ := he
      cases he
      obtain ⟨g, k1⟩ := hrc _ _ _ _ _ _ _ _ h0
      exact ⟨g, fun w Q hm hf hk k => k1 w _ hm hf hk fun w1 hp a1 ha1 => ScopeK.of 0 hne (k w1 hp a1 ha1)⟩
  | k + 1, F, F', s, s', d, e, h => by
    cases h0 : rc q n d F s with
    | none => rw [h0] at h; cases h
    | some r =>
      obtain ⟨e1, F1, s1⟩ := r
      rw [h0] at h
      obtain ⟨g, k1⟩ := hrc _ _ _ _ _ _ _ _ h0
      by_cases hg : ∃ l, e1 = .goto l
      · obtain ⟨l, rfl⟩ := hg
        simp only [cscope] at h
        split at h
        · rename_i rest hfl
          obtain ⟨g2, k2⟩ := cscope_sound hrc k h
          refine ⟨g.trans g2, fun w Q hm hf hk kk => k1 w _ hm hf (hk.of g2) fun w1 hp a1 ha1 => ?_⟩
          exact ⟨rest, hfl, k2 w1 Q hp.mem hp.fresh hk (fun w2 hp2 => kk w2 (hp.trans hp2)) a1 ha1⟩
        · cases h
      · have hne : ∀ l, e1 ≠ .goto l := fun l he => hg ⟨l, he⟩
        have he : (e, F', s') = (e1, F1, s1) := by
          cases e1 <;> simp only [cscope] at h <;> first | exact absurd rfl (hne _) | (cases h; rfl)
        cases he
        exact ⟨g, fun w Q hm hf hk kk => k1 w _ hm hf hk fun w1 hp a1 ha1 => ScopeK.of (k + 1) hne (kk w1 hp a1 ha1)⟩

theorem JE.then_of {n : Nat} {e : Exit} {Q : Exit → Act → World → Prop} {K : Act → World → Prop} {F : Fr} {w : World} (he : e ≠ .normal) (h : JE n ds e Q F w) : JE n ds e (Exit.then K Q) F w := by
  cases e with
  | normal => exact absurd rfl he
  | _ => exact h

theorem crunF_sound {fuel : Nat} {rc : CR} (hK : Known P fns) (hrc : ∀ ds, CROk P ds B pre φ rc) (ds : List Deferred) : CROk P ds B pre φ (crunF P fns fuel rc) := by
  intro q n c F s e F' s' h
  have hr := hrc ds
  unfold crunF at h
  split at h
  · rename_i F s a b
    split at h
    · rename_i F1 s1 h1
      obtain ⟨g1, k1⟩ := hr _ _ _ _ _ _ _ _ h1
      obtain ⟨g2, k2⟩ := hr _ _ _ _ _ _ _ _ h
      exact ⟨g1.trans g2, fun w Q hm hf hk k => JC.seq (k1 w _ hm hf (hk.of g2) fun w1 hp => JE.seq (k2 w1 Q hp.mem hp.fresh hk fun w2 hp2 => k w2 (hp.trans hp2)))⟩
    · rename_i hne
      obtain ⟨g1, k1⟩ := hr _ _ _ _ _ _ _ _ h
      exact ⟨g1, fun w Q hm hf hk k => JC.seq (k1 w _ hm hf hk fun w1 hp => JE.then_of (fun he => by subst he; exact hne _ _ h) (k w1 hp))⟩
  · rename_i F s id ops
    split at h
    · rename_i F1 s1 h1
      cases h
      obtain ⟨g1, k1⟩ := cops_sound (ds := ds) hK hrc _ h1
      exact ⟨g1, fun w Q hm hf hk k => by
        have := k1 w Q hm hf hk k
        intro a ha
        exact wp_region_list (this a ha)⟩
    · cases h
  · rename_i F s id ops
    split at h
    · cases h
    rename_i hq
    split at h
    · rename_i m hs hh
      split at h
      · rename_i hlex
        split at h
        · rename_i F1 s1 h1
          split at h
          · rename_i F2 s2 h2
            cases h
            have hqf : q = false := by simpa using hq
            subst hqf
            have k1 := cops_still (ds := ds) hK hrc _ h1
            have g1 := (cops_sound (ds := ds) hK hrc _ h1).1
            obtain ⟨g2, k2⟩ := cops_sound (ds := ds) hK hrc _ h2
            refine ⟨g1.trans g2, fun w Q hm hf hk k => ?_⟩
            have hmd := hm.no (Ch.drew1 w)
            have base := XPost.hint hm hf hs
            intro a ha
            have := wp_region_still_tail (id := id) (l := ops.toList) (Q := Q) m hK.mixed (by simpa using hlex) (a := a) (w := w) (k1 w.drew (fun a => wpList P ops.toList.toArray Q (ops.toList.drop m) a w.drew) hmd hf (hk.of g2) (fun hp a1 ha1 => by
              have hp' := base.trans ⟨hp.mem, hp.ch, hp.fresh, hp.names, fun h => by cases h⟩
              simpa using k2 w.drew Q hp.mem hp.fresh hk (fun w2 hp2 => k w2 (hp'.trans hp2)) a1 ha1) a ha)
            simpa using this
          · cases h
        · cases h
      · split at h
        · rename_i hlex
          split at h
          · rename_i F1 s1 h1
            cases h
            have hqf : q = false := by simpa using hq
            subst hqf
            have k1 := cops_still (ds := ds) hK hrc _ h1
            have g1 := (cops_sound (ds := ds) hK hrc _ h1).1
            refine ⟨g1, fun w Q hm hf hk k => ?_⟩
            have hmd := hm.no (Ch.drew1 w)
            have base := XPost.hint hm hf hs
            intro a ha
            have := wp_region_still_lit (id := id) (l := ops.toList) (Q := Q) hK.mixed (by simpa using hlex) (a := a) (w := w) (k1 w.drew (fun a => Q .normal a w.drew) hmd hf hk (fun hp a1 ha1 =>
              k w.drew (base.trans ⟨hp.mem, hp.ch, hp.fresh, hp.names, fun h => by cases h⟩) a1 ha1) a ha)
            simpa using this
          · cases h
        · cases h
    · rename_i hs hh
      split at h
      · rename_i hsel
        split at h
        · rename_i F1 s1 h1
          cases h
          have hqf : q = false := by simpa using hq
          subst hqf
          obtain ⟨g1, k1⟩ := cany_sound (ds := ds) hK hrc hsel _ h1
          refine ⟨g1, fun w Q hm hf hk k => ?_⟩
          have hmd := hm.no (Ch.drew1 w)
          have base := XPost.hint hm hf hs
          intro a ha
          exact wp_region_any hK.mixed (wpI.any _ _ _ _ (k1 w.drew (Q .normal) hmd hf hk (fun w2 hp2 a1 ha1 => k w2 (base.trans hp2) a1 ha1) a ha))
        · cases h
      · cases h
    · cases h
  · rename_i F s c a b
    split at h
    · rename_i hc
      obtain ⟨g1, k1⟩ := hr _ _ _ _ _ _ _ _ h
      exact ⟨g1, fun w Q hm hf hk k => JC.condT (evE hc) rfl (k1 w Q hm hf hk k)⟩
    · rename_i hc
      obtain ⟨g1, k1⟩ := hr _ _ _ _ _ _ _ _ h
      exact ⟨g1, fun w Q hm hf hk k => JC.condF (evE hc) rfl (k1 w Q hm hf hk k)⟩
    · cases h
  · rename_i F s id c
    split at h
    · rename_i i F1 s1 h1
      obtain ⟨g1, k1⟩ := hr _ _ _ _ _ _ _ _ h1
      split at h
      · rename_i hb
        cases h
        have hb : i = id := by simpa using hb
        subst hb
        exact ⟨g1, fun w Q hm hf hk k => JC.block (k1 w _ hm hf hk fun w1 hp => JE.exit_here (k w1 hp))⟩
      · rename_i hb
        cases h
        exact ⟨g1, fun w Q hm hf hk k => JC.block (k1 w _ hm hf hk fun w1 hp => JE.exit_past hb (k w1 hp))⟩
    · rename_i hne
      obtain ⟨g1, k1⟩ := hr _ _ _ _ _ _ _ _ h
      refine ⟨g1, fun w Q hm hf hk k => JC.block (k1 w _ hm hf hk fun w1 hp => ?_)⟩
      have := k w1 hp
      cases e with
      | exit i => exact absurd h (hne _ _ _)
      | _ => exact this
  · rename_i F s c
    obtain ⟨g1, k1⟩ := cloop_sound hr _ h
    exact ⟨g1, fun w Q hm hf hk k a ha => wp_loop_rounds _ (k1 w Q hm hf hk k a ha)⟩
  · rename_i F s c
    obtain ⟨g1, k1⟩ := cscope_sound hr _ h
    exact ⟨g1, fun w Q hm hf hk k a ha => wp_scopeK _ (k1 w Q hm hf hk k a ha)⟩
  · cases h; exact ⟨Grown.refl _, fun w Q hm hf hk k => JC.exit (k w (XPost.refl hm hf))⟩
  · cases h; exact ⟨Grown.refl _, fun w Q hm hf hk k => JC.goto (k w (XPost.refl hm hf))⟩
  · cases h; exact ⟨Grown.refl _, fun w Q hm hf hk k => JC.ret (k w (XPost.refl hm hf))⟩
  · cases h; exact ⟨Grown.refl _, fun w Q hm hf hk k => JC.skip (k w (XPost.refl hm hf))⟩
  · cases h; exact ⟨Grown.refl _, fun w Q hm hf hk k => JC.label (k w (XPost.refl hm hf))⟩
  · cases h
theorem crun_sound (hK : Known P fns) : ∀ (f : Nat) (ds : List Deferred), CROk P ds B pre φ (crun P fns f)
  | 0, ds => fun q n c F s e F' s' h => by cases h
  | f + 1, ds => crunF_sound hK (crun_sound hK f) ds

def couts (r : Value × XS) : Value × List (Nat × Nat) × List (Addr × Value) × List Value := (r.1, r.2.eqs, r.2.olds, r.2.ones)
/-- A call over nothing that is known: it makes its own blocks alone. -/
theorem calls_new (hK : Known P fns) (f : Nat) {g : FuncId} (hg : (aget fns g).isSome = true) {vs : List Value} {v : Value} {w : World} {hints : List Hint} (fr : List Nat) {ns : List Nat} {olds : List (Addr × Value)}
    (ok : (ccall P fns (crun P fns f) false g vs ⟨[], hints, fr, [], [], []⟩).map couts = some (v, twice ns, olds, [])) (hfr : Fresh fr w) (hag : Agree w φ) (ho : Olds φ olds) :
    Calls P g vs.toArray w fun e w' => e = .returned v ∧ Ch No w w' := by
  cases hx : ccall P fns (crun P fns f) false g vs ⟨[], hints, fr, [], [], []⟩ with
  | none => rw [hx] at ok; cases ok
  | some r =>
    obtain ⟨u, H', hh, fr', eqs, ol, on⟩ := r
    rw [hx] at ok
    simp only [Option.map_some, couts, Option.some.injEq, Prod.mk.injEq] at ok
    obtain ⟨rfl, rfl, rfl, rfl⟩ := ok
    obtain ⟨g1, k1⟩ := ccall_sound (B := w) (pre := []) hK (crun_sound hK f []) hx
    rcases k1 w (Mem.nil [] hag) hfr ⟨allEq_twice _, ho, by simp [Ones]⟩ with ⟨w1, hv, -⟩ | ⟨-, hc⟩
    · have hfi : (callFunc g vs.toArray).run P w = .ok (.enter g vs.toArray) w := by
        obtain ⟨fi, hfi⟩ := Option.isSome_iff_exists.1 hg
        exact (hK.fns _ (aget_mem hfi)).1 _ _
      rw [hfi] at hv; cases hv
    · exact hc.mono fun e w' he => ⟨he.1, he.2.ch.mono (fun i hi => by simp [Names] at hi)⟩
theorem calls_pure (hK : Known P fns) (f : Nat) {g : FuncId} (hg : (aget fns g).isSome = true) {vs : List Value} {v : Value} {w : World}
    (ok : (ccall P fns (crun P fns f) true g vs ⟨[], [], [], [], [], []⟩).map couts = some (v, [], [], [])) :
    Calls P g vs.toArray w fun e w' => e = .returned v ∧ w' = w := by
  cases hx : ccall P fns (crun P fns f) true g vs ⟨[], [], [], [], [], []⟩ with
  | none => rw [hx] at ok; cases ok
  | some r =>
    obtain ⟨u, H', hh, fr', eqs, ol, on⟩ := r
    rw [hx] at ok
    simp only [Option.map_some, couts, Option.some.injEq, Prod.mk.injEq] at ok
    obtain ⟨rfl, rfl, rfl, rfl⟩ := ok
    obtain ⟨g1, k1⟩ := ccall_sound (B := w) (pre := []) (φ := fun _ _ => none) hK (crun_sound hK f []) hx
    rcases k1 w (Mem.nil [] (Agree.none w)) (by intro i b hb; simp at hb) ⟨by simp [AllEq], by simp [Olds], by simp [Ones]⟩ with ⟨w1, hv, -⟩ | ⟨-, hc⟩
    · have hfi : (callFunc g vs.toArray).run P w = .ok (.enter g vs.toArray) w := by
        obtain ⟨fi, hfi⟩ := Option.isSome_iff_exists.1 hg
        exact (hK.fns _ (aget_mem hfi)).1 _ _
      rw [hfi] at hv; cases hv
    · exact hc.mono fun e w' he => ⟨he.1, (he.2.still rfl).1⟩
theorem fresh0 {w : World} : Fresh [] w := by intro i b hb; simp at hb
theorem FnOk.mk' {f : FuncId} {fn : Func} {c : Code} (h : P.funcs[f]? = some fn) (hc : ∀ args w, (callFunc f args).run P w = .ok (.enter f args) w) (hb : fn.body = some c) : FnOk P f ⟨fn.ntmps, fn.results.toList, c⟩ := ⟨hc, fn, h, hb, rfl, by simp⟩
/-- The row of a function, out of the program's own fact. -/
def fnI {f : FuncId} {fn : Func} (h : P.funcs[f]? = some fn) : FuncId × FnI := (f, ⟨fn.ntmps, fn.results.toList, fn.body.getD .skip⟩)
theorem fnI_ok {f : FuncId} {fn : Func} (h : P.funcs[f]? = some fn) (hc : ∀ args w, (callFunc f args).run P w = .ok (.enter f args) w) (hb : fn.body.isSome = true) : FnOk P (fnI h).1 (fnI h).2 := by
  refine ⟨hc, fn, h, ?_, rfl, by simp [fnI]⟩
  obtain ⟨c, hc⟩ := Option.isSome_iff_exists.1 hb
  simp [fnI, hc]
theorem allFns_nil : ∀ p ∈ ([] : Fns), FnOk P p.1 p.2 := fun p h => by cases h
theorem allFns_cons {x : FuncId × FnI} {l : Fns} (h : FnOk P x.1 x.2) (k : ∀ p ∈ l, FnOk P p.1 p.2) : ∀ p ∈ x :: l, FnOk P p.1 p.2 := fun p hp => by
  rcases List.mem_cons.1 hp with rfl | hp
  · exact h
  · exact k p hp
def nm (w : World) (l : List Nat) : List Nat := l.map fun i => w.heap.size + i
theorem fresh_nm (w : World) (k : Nat) : Fresh (nm w (List.range k)) w := by
  intro i b hb
  simp only [nm, List.getElem?_map] at hb
  cases hi : (List.range k)[i]? with
  | none => rw [hi] at hb; cases hb
  | some j =>
    rw [hi] at hb
    have : j = i := by
      have h2 := List.getElem?_eq_some_iff.1 hi
      obtain ⟨h3, h4⟩ := h2
      rw [List.getElem_range] at h4; exact h4.symm
    subst this
    simpa using hb.symm
def picks (l : List (Addr × Value)) (is : List Nat) : List (Addr × Value) := is.filterMap fun i => l[i]?
theorem Olds.picks {φ : Fz} {l : List (Addr × Value)} (h : Olds φ l) {is : List Nat} : Olds φ (Eng.picks l is) := fun p hp => by
  obtain ⟨i, _, hi⟩ := List.mem_filterMap.1 hp
  exact h p (List.mem_of_getElem? hi)
theorem Olds.le {ψ : Fz} {l : List (Addr × Value)} (h : Olds φ l) (k : Fz.le φ ψ) : Olds ψ l := fun p hp => ⟨(h p hp).1, k _ _ _ (h p hp).2⟩
end
end Go.Proofs.YtodeldmdbeocfaaGreatDoor.Eng
