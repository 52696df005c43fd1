/- The engine, reflected, second part: lists of operations, regions, calls, results. Over any program. -/
import Derived.Test.YtodeldmdbeocfaaGreatDoorRx
namespace Go.Proofs.YtodeldmdbeocfaaGreatDoor.Eng
open Go
set_option linter.unusedVariables false
set_option linter.unusedSimpArgs false

def lk : Fr → Nat → Option Value
  | [], _ => none
  | (d, v) :: r, t => match Nat.beq d t with
    | true => some v
    | false => lk r t
theorem lk_look : ∀ {F : Fr} {t : Nat} {v : Value}, lk F t = some v → Look F t v
  | (d, u) :: r, t, v, h => by
    unfold lk at h
    split at h
    · rename_i hb
      have : d = t := by simpa using hb
      subst this; cases h; exact .here
    · rename_i hb; exact .there hb (lk_look h)
def evO (F : Fr) : Operand → Option Value
  | .tmp t => lk F t
  | .const v => some v
  | .global g => some (.pointer (some ⟨g, 0, none⟩))
  | .func f => some (.func (.func f) #[] #[])
def evF (F : Fr) (x : Operand) : Value := (evO F x).getD undef
theorem evE {F : Fr} {x : Operand} {v : Value} (h : evO F x = some v) : Ev F x v := by
  cases x with
  | tmp t => exact .tmp (lk_look h)
  | const u => cases h; exact .const
  | global g => cases h; exact .global
  | func f => cases h; exact .func
theorem evF_eq {F : Fr} {x : Operand} {a : Act} (ha : Knows F a) (h : (evO F x).isSome = true) : a.eval x = evF F x := by
  obtain ⟨v, hv⟩ := Option.isSome_iff_exists.1 h
  rw [(evE hv).eq ha, evF, hv]; rfl

def isSel : Op → Bool
  | .select _ _ => true
  | _ => false
def kmin : IntKind → Int
  | .i8 => -128 | .i16 => -32768 | .i32 => -2147483648 | .i64 => -9223372036854775808 | _ => 0
def kmax : IntKind → Int
  | .i8 => 127 | .i16 => 32767 | .i32 => 2147483647 | .i64 => 9223372036854775807 | .u8 => 255 | .u16 => 65535 | .u32 => 4294967295 | .u64 => 18446744073709551615
theorem wrap_kin {k : IntKind} {x : Int} (h : kmin k ≤ x ∧ x ≤ kmax k) : k.wrap x = x := by
  cases k <;> simp only [kmin, kmax] at h
  · simp [IntKind.wrap, IntKind.bits, IntKind.signed]; omega
  · simp [IntKind.wrap, IntKind.bits, IntKind.signed]; omega
  · exact IntWalk.i32_in x h
  · exact IntWalk.i64_in x h
  · exact IntWalk.u8_in x h
  · exact IntWalk.u16_in x h
  · exact IntWalk.u32_in x h
  · exact IntWalk.u64_in x h
def Ins : List (IntKind × Int) → Prop
  | [] => True
  | (k, x) :: r => (kmin k ≤ x ∧ x ≤ kmax k) ∧ Ins r
theorem Ins.mem : ∀ {l : List (IntKind × Int)}, Ins l → ∀ p ∈ l, p.1.wrap p.2 = p.2
  | (k, x) :: r, h, p, hp => by
    rcases List.mem_cons.1 hp with rfl | hp
    · exact wrap_kin h.1
    · exact Ins.mem h.2 p hp

/-- A whole number that an operation comes to where nothing wraps. -/
def exactOp (P : Program) (F : Fr) : Op → Option (IntKind × Int)
  | .binOp .add _ x y _ => match evF F x, evF F y with
    | .int k i, .int k' j => if k = k' then some (k, i + j) else none
    | _, _ => none
  | .binOp .sub _ x y _ => match evF F x, evF F y with
    | .int k i, .int k' j => if k = k' then some (k, i - j) else none
    | _, _ => none
  | .binOp .mul _ x y _ => match evF F x, evF F y with
    | .int k i, .int k' j => if k = k' then some (k, i * j) else none
    | _, _ => none
  | .unOp .neg _ x => match evF F x with
    | .int k i => some (k, 0 - i)
    | _ => none
  | .convert s d x => match P.underlying s, P.underlying d, evF F x with
    | some _, some (.int k), .int _ i => some (k, i)
    | _, _, _ => none
  | _ => none

def wantF (ops : Array Oper) (F : Fr) (o : Oper) : Option Bool :=
  match o.guard with
  | none => some true
  | some (j, want) => match (ops[j]?).bind (·.dst) with
    | some dj => match lk F dj with
      | some (.bool b) => some (b == want)
      | some (.tuple _) => some false
      | _ => none
    | none => none
def xop (P : Program) (q : Bool) (n : Nat) (ops : Array Oper) (ex : List Nat) (F : Fr) (o : Oper) (s : XS) : Option (Fr × XS × List (IntKind × Int)) :=
  match wantF ops F o with
  | none => none
  | some false => match o.dst with
    | some d => if Nat.blt d n then some ((d, undef) :: F, s, []) else none
    | none => some (F, s, [])
  | some true =>
    if isSel o.op || !(o.op.operands.all fun x => (evO F x).isSome) then none else
    match o.dst with
    | some d =>
      if Nat.blt d n then
        match ex.contains d with
        | true => match exactOp P F o.op with
          | some (k, x) => some ((d, .int k x) :: F, s, [(k, x)])
          | none => none
        | false => match hrun P q (execOp (evF F) o) s with
          | some (.value v, s') => some ((d, v) :: F, s', [])
          | _ => none
      else none
    | none => match hrun P q (execOp (evF F) o) s with
      | some (.value _, s') => some (F, s', [])
      | some (.skip, s') => some (F, s', [])
      | _ => none
def xops (P : Program) (q : Bool) (n : Nat) (ops : Array Oper) (ex : List Nat) : List Oper → Fr → XS → List (IntKind × Int) → Option (Fr × XS × List (IntKind × Int))
  | [], F, s, l => some (F, s, l)
  | o :: r, F, s, l => match xop P q n ops ex F o s with
    | some (F', s', l') => xops P q n ops ex r F' s' (l' ++ l)
    | none => none

section
variable {P : Program} {n : Nat} {ds : List Deferred} {ops : Array Oper} {Q : Exit → Act → World → Prop} {B : World} {pre : List Nat} {φ : Fz} {q : Bool} {ex : List Nat}

theorem yielded_of {F : Fr} {a : Act} {j dj : Nat} {v : Value} (hd : (ops[j]?).bind (·.dst) = some dj) (hl : lk F dj = some v) (ha : Knows F a) : yielded ops a.tmps j = (match v with | .bool b => some b | _ => none) := by
  simp only [yielded, hd, Option.bind_some, ha _ _ (lk_look hl)]
  cases v <;> rfl
theorem wantF_eq {F : Fr} {o : Oper} {a : Act} {b : Bool} (h : wantF ops F o = some b) (ha : Knows F a) : Region.wanted o (yielded ops a.tmps) = b := by
  unfold wantF at h
  unfold Region.wanted
  cases hg : o.guard with
  | none => rw [hg] at h; cases h; rfl
  | some p =>
    obtain ⟨j, want⟩ := p
    rw [hg] at h
    simp only at h ⊢
    split at h
    · rename_i dj hd
      split at h
      · rename_i c hl; rw [yielded_of hd hl ha]; cases h; cases c <;> cases want <;> rfl
      · rename_i c hl; rw [yielded_of hd hl ha]; cases h; rfl
      · cases h
    · cases h
theorem exactOp_run {F : Fr} {a : Act} {o : Oper} {k : IntKind} {x : Int} {w : World} (h : exactOp P F o.op = some (k, x)) (hk : (o.op.operands.all fun x => (evO F x).isSome) = true) (hx : k.wrap x = x) (ha : Knows F a) : (execOp a.eval o).run P w = .ok (.value (.int k x)) w := by
  obtain ⟨dst, op, ty, pos, af, g⟩ := o
  have hev : ∀ x ∈ op.operands, Ev F x (evF F x) := fun x hx => by
    have := (Array.all_eq_true_iff_forall_mem.1 hk) x hx
    obtain ⟨v, hv⟩ := Option.isSome_iff_exists.1 this
    have e : evF F x = v := by rw [evF, hv]; rfl
    rw [e]; exact evE hv
  cases op with
  | binOp bo T u v U =>
    have hu := hev u (by simp [Op.operands])
    have hv := hev v (by simp [Op.operands])
    cases bo <;> simp only [exactOp] at h <;> first | (cases h; done) | skip
    all_goals
      split at h
      · rename_i k1 i k2 j e1 e2
        rw [e1] at hu; rw [e2] at hv
        split at h
        · rename_i hkk; subst hkk; cases h
          first | exact Run.add hu hv hx a ha _ _ _ _ | exact Run.sub hu hv hx a ha _ _ _ _ | exact Run.mul hu hv hx a ha _ _ _ _
        · cases h
      · cases h
  | unOp uo T u =>
    have hu := hev u (by simp [Op.operands])
    cases uo <;> simp only [exactOp] at h <;> first | (cases h; done) | skip
    split at h
    · rename_i k1 i e1; rw [e1] at hu; cases h; exact Run.neg hu hx a ha _ _ _ _
    · cases h
  | convert s d u =>
    have hu := hev u (by simp [Op.operands])
    simp only [exactOp] at h
    split at h
    · rename_i ds' k1 k2 i hs hd e1; rw [e1] at hu; cases h; exact Run.conv hs hd hu hx a ha _ _ _ _
    · cases h
  | _ => simp [exactOp] at h

theorem Ins.right : ∀ {l r : List (IntKind × Int)}, Ins (l ++ r) → Ins r
  | [], _, h => h
  | _ :: l, r, h => Ins.right (l := l) h.2
/-- What one operation that has been carried out comes to. -/
theorem xop_sound {F F' : Fr} {o : Oper} {s s' : XS} {l : List (IntKind × Int)} {w : World} {a : Act} (h : xop P q n ops ex F o s = some (F', s', l)) (hm : Mem B pre φ s.H w) (hf : Fresh s.fresh w) (hk : XOk φ s') (hi : Ins l) (ha : Rep n ds F a) :
    ∃ v w', Rep n ds F' (a.put o.dst v) ∧ XPost B pre φ q s s' w w' ∧
      ((Region.wanted o (yielded ops a.tmps) = false ∧ v = undef ∧ w' = w) ∨
       (Region.wanted o (yielded ops a.tmps) = true ∧ ((execOp a.eval o).run P w = .ok (.value v) w' ∨ (o.dst = none ∧ (execOp a.eval o).run P w = .ok .skip w')))) := by
  have refl : XPost B pre φ q s s w w := ⟨hm, Ch.refl w, hf, ⟨[], by simp, by simp⟩, fun _ => ⟨rfl, rfl⟩⟩
  unfold xop at h
  split at h
  · cases h
  · rename_i hw
    have hw := wantF_eq hw ha.knows
    split at h
    · rename_i d hd
      split at h
      · rename_i hn; cases h
        exact ⟨undef, w, by rw [hd]; exact ha.put hn, refl, .inl ⟨hw, rfl, rfl⟩⟩
      · cases h
    · rename_i hd; cases h
      exact ⟨undef, w, by rw [hd]; exact ha, refl, .inl ⟨hw, rfl, rfl⟩⟩
  · rename_i hw
    have hw := wantF_eq hw ha.knows
    split at h
    · cases h
    rename_i hs
    simp only [Bool.or_eq_true, Bool.not_eq_true', not_or, Bool.not_eq_false] at hs
    obtain ⟨hsel, hall⟩ := hs
    have hex : execOp a.eval o = execOp (evF F) o := execOp_congr o (fun cs b e => by rw [e] at hsel; exact hsel rfl) (fun x hx => evF_eq ha.knows ((Array.all_eq_true_iff_forall_mem.1 hall) x hx))
    split at h
    · rename_i d hd
      split at h
      · rename_i hn
        split at h
        · split at h
          · rename_i k x he
            cases h
            exact ⟨.int k x, w, by rw [hd]; exact ha.put hn, refl, .inr ⟨hw, .inl (exactOp_run he hall (wrap_kin hi.1) ha.knows)⟩⟩
          · cases h
        · split at h
          · rename_i v s2 he
            cases h
            obtain ⟨w', hr, hp⟩ := hrun_sound _ _ _ _ _ he hm hf hk
            exact ⟨v, w', by rw [hd]; exact ha.put hn, hp, .inr ⟨hw, .inl (by rw [hex]; exact hr)⟩⟩
          · cases h
      · cases h
    · rename_i hd
      split at h
      · rename_i v s2 he
        cases h
        obtain ⟨w', hr, hp⟩ := hrun_sound _ _ _ _ _ he hm hf hk
        exact ⟨v, w', by rw [hd]; exact ha, hp, .inr ⟨hw, .inl (by rw [hex]; exact hr)⟩⟩
      · rename_i s2 he
        cases h
        obtain ⟨w', hr, hp⟩ := hrun_sound _ _ _ _ _ he hm hf hk
        exact ⟨undef, w', by rw [hd]; exact ha, hp, .inr ⟨hw, .inr ⟨hd, by rw [hex]; exact hr⟩⟩⟩
      · cases h

theorem xop_grow {F F' : Fr} {o : Oper} {s s' : XS} {l : List (IntKind × Int)} (h : xop P q n ops ex F o s = some (F', s', l)) : (∃ l, s'.eqs = l ++ s.eqs) ∧ (∃ l, s'.olds = l ++ s.olds) ∧ (∃ l, s'.ones = l ++ s.ones) := by
  have refl : (∃ l, s.eqs = l ++ s.eqs) ∧ (∃ l, s.olds = l ++ s.olds) ∧ (∃ l, s.ones = l ++ s.ones) := ⟨⟨[], rfl⟩, ⟨[], rfl⟩, ⟨[], rfl⟩⟩
  unfold xop at h
  split at h
  · cases h
  · split at h
    · split at h
      · cases h; exact refl
      · cases h
    · cases h; exact refl
  · split at h
    · cases h
    split at h
    · split at h
      · split at h
        · split at h
          · cases h; exact refl
          · cases h
        · split at h
          · rename_i he; cases h; exact hrun_grow _ _ _ _ he
          · cases h
      · cases h
    · split at h
      · rename_i he; cases h; exact hrun_grow _ _ _ _ he
      · rename_i he; cases h; exact hrun_grow _ _ _ _ he
      · cases h
theorem xops_grow : ∀ (l : List Oper) {F F' : Fr} {s s' : XS} {i i' : List (IntKind × Int)}, xops P q n ops ex l F s i = some (F', s', i') → ((∃ l, s'.eqs = l ++ s.eqs) ∧ (∃ l, s'.olds = l ++ s.olds) ∧ (∃ l, s'.ones = l ++ s.ones)) ∧ (Ins i' → Ins i)
  | [], F, F', s, s', i, i', h => by cases h; exact ⟨⟨⟨[], rfl⟩, ⟨[], rfl⟩, ⟨[], rfl⟩⟩, id⟩
  | o :: r, F, F', s, s', i, i', h => by
    unfold xops at h
    split at h
    · rename_i F1 s1 l1 h1
      obtain ⟨⟨⟨a, ha⟩, ⟨b, hb⟩, ⟨c, hc⟩⟩, hi⟩ := xops_grow r h
      obtain ⟨⟨a', ha'⟩, ⟨b', hb'⟩, ⟨c', hc'⟩⟩ := xop_grow h1
      refine ⟨⟨⟨a ++ a', by rw [ha, ha', List.append_assoc]⟩, ⟨b ++ b', by rw [hb, hb', List.append_assoc]⟩, ⟨c ++ c', by rw [hc, hc', List.append_assoc]⟩⟩, fun h => (hi h).right⟩
    · cases h
theorem Ins.left : ∀ {l r : List (IntKind × Int)}, Ins (l ++ r) → Ins l
  | [], _, _ => trivial
  | _ :: l, r, h => ⟨h.1, Ins.left (l := l) h.2⟩

theorem JL.xall : ∀ (l : List Oper) {F F' : Fr} {s s' : XS} {i i' : List (IntKind × Int)} {w : World} {rest : List Oper}, xops P q n ops ex l F s i = some (F', s', i') → Mem B pre φ s.H w → Fresh s.fresh w → XOk φ s' → Ins i' →
    (∀ w', XPost B pre φ q s s' w w' → JL P n ds ops Q rest F' w') → JL P n ds ops Q (l ++ rest) F w
  | [], F, F', s, s', i, i', w, rest, h, hm, hf, hk, hi, k => by
    cases h
    exact k w ⟨hm, Ch.refl w, hf, ⟨[], by simp, by simp⟩, fun _ => ⟨rfl, rfl⟩⟩
  | o :: r, F, F', s, s', i, i', w, rest, h, hm, hf, hk, hi, k => by
    unfold xops at h
    split at h
    · rename_i F1 s1 l1 h1
      have hg := xops_grow r h
      intro a ha
      obtain ⟨v, w1, hr, hp, hc⟩ := xop_sound h1 hm hf (hk.back hg.1.1 hg.1.2.1 hg.1.2.2) (hg.2 hi).left ha
      have next := JL.xall r h hp.mem hp.fresh hk hi (fun w' hp' => k w' (XPost.step hp.ch hp.names hp.still hp')) _ hr
      show wpList P ops Q (o :: (r ++ rest)) a w
      rcases hc with ⟨hw, rfl, rfl⟩ | ⟨hw, hc⟩
      · refine wpList_step fun K hK => ?_
        rw [if_neg (by simp [hw])]
        exact hK _ _ next
      · refine wpList_step fun K hK => ?_
        rw [if_pos hw]
        show Oper.upon P o a K Q _
        rcases hc with hc | ⟨hd, hc⟩
        · rw [hc]; exact hK _ _ next
        · rw [hc]; rw [hd] at next; show K (a.put o.dst undef) w1; rw [hd]; exact hK _ _ next
    · cases h

def tmatch (F' : Fr) (r : Fr × XS × List (IntKind × Int)) : List (Option Value) × XS × List (IntKind × Int) := (F'.map (fun p => lk r.1 p.1), r.2)
def tmeant (F' : Fr) (s : XS) (i : List (IntKind × Int)) : Option (List (Option Value) × XS × List (IntKind × Int)) := some (F'.map (fun p => some p.2), s, i)
theorem subs_of : ∀ {F F' : Fr}, F'.map (fun p => lk F p.1) = F'.map (fun p => some p.2) → Subs F F'
  | F, [], _ => .nil
  | F, (t, v) :: r, h => by
    simp only [List.map_cons, List.cons.injEq] at h
    exact .cons (lk_look h.1) (subs_of h.2)
theorem tmatch_eq {F' : Fr} {o : Option (Fr × XS × List (IntKind × Int))} {s : XS} {i : List (IntKind × Int)} (h : o.map (tmatch F') = tmeant F' s i) : ∃ F1, o = some (F1, s, i) ∧ Subs F1 F' := by
  cases o with
  | none => cases h
  | some r =>
    obtain ⟨F1, s1, i1⟩ := r
    simp only [Option.map_some, tmatch, tmeant, Option.some.injEq, Prod.mk.injEq] at h
    obtain ⟨h1, rfl, rfl⟩ := h
    exact ⟨F1, rfl, subs_of h1⟩
abbrev twice (l : List Nat) : List (Nat × Nat) := l.map fun x => (x, x)
theorem allEq_twice (l : List Nat) : AllEq (twice l) := fun p hp => by
  obtain ⟨x, _, rfl⟩ := List.mem_map.1 hp; rfl

/-! ### Rules -/
section rules
variable {w : World} {F F' : Fr} {H H' : Hp} {hints : List Hint} {ns : List Nat} {olds : List (Addr × Value)} {ones : List Value} {ins : List (IntKind × Int)} {rest : List Oper}

/-- Nothing is written. -/
theorem JL.xq (m : Nat) (hM : Mem B pre φ H w) (ok : (xops P true n ops ex (rest.take m) F ⟨H, hints, [], [], [], []⟩ []).map (tmatch F') = tmeant F' ⟨H, [], [], twice ns, olds, ones⟩ ins) (ho : Olds φ olds) (hi : Ins ins)
    (k : JL P n ds ops Q (rest.drop m) F' w) (h1 : ones = [] := by rfl) : JL P n ds ops Q rest F w := by
  subst h1
  obtain ⟨F1, h, hs⟩ := tmatch_eq ok
  have := JL.xall (Q := Q) (ds := ds) (rest := rest.drop m) (rest.take m) h hM (by intro i b hb; simp at hb) ⟨allEq_twice _, ho, by simp [Ones]⟩ hi (fun w' hp => by
    rw [(hp.still rfl).1]; exact JL.keep hs k)
  rwa [List.take_append_drop] at this
theorem JC.xq (hM : Mem B pre φ H w) {id : Nat} {o : List Oper} (ok : (xops P true n o.toArray ex o F ⟨H, hints, [], [], [], []⟩ []).map (tmatch F') = tmeant F' ⟨H, [], [], twice ns, olds, ones⟩ ins) (ho : Olds φ olds) (hi : Ins ins)
    (k : JE n ds .normal Q F' w) (h1 : ones = [] := by rfl) : JC P n ds (.region id o.toArray false) Q F w := by
  subst h1
  obtain ⟨F1, h, hs⟩ := tmatch_eq ok
  have := JL.xall (Q := Q) (ds := ds) (rest := []) o h hM (by intro i b hb; simp at hb) ⟨allEq_twice _, ho, by simp [Ones]⟩ hi (fun w' hp => by
    rw [(hp.still rfl).1]; exact JL.nil (JE.keep hs k))
  rw [List.append_nil] at this
  exact JC.region this
/-- It writes to what is known; it makes no blocks. -/
theorem JL.x0 (m : Nat) (hM : Mem B pre φ H w) (ok : (xops P false n ops ex (rest.take m) F ⟨H, hints, [], [], [], []⟩ []).map (tmatch F') = tmeant F' ⟨H', [], [], twice ns, olds, ones⟩ ins) (ho : Olds φ olds) (h1 : Ones ones) (hi : Ins ins)
    (k : ∀ w', Ch (Names H) w w' → Mem B pre φ H' w' → JL P n ds ops Q (rest.drop m) F' w') : JL P n ds ops Q rest F w := by
  obtain ⟨F1, h, hs⟩ := tmatch_eq ok
  have := JL.xall (Q := Q) (ds := ds) (rest := rest.drop m) (rest.take m) h hM (by intro i b hb; simp at hb) ⟨allEq_twice _, ho, h1⟩ hi (fun w' hp => JL.keep hs (k w' hp.ch hp.mem))
  rwa [List.take_append_drop] at this
theorem JC.x0 (hM : Mem B pre φ H w) {id : Nat} {o : List Oper} (ok : (xops P false n o.toArray ex o F ⟨H, hints, [], [], [], []⟩ []).map (tmatch F') = tmeant F' ⟨H', [], [], twice ns, olds, ones⟩ ins) (ho : Olds φ olds) (h1 : Ones ones) (hi : Ins ins)
    (k : ∀ w', Ch (Names H) w w' → Mem B pre φ H' w' → JE n ds .normal Q F' w') : JC P n ds (.region id o.toArray false) Q F w := by
  obtain ⟨F1, h, hs⟩ := tmatch_eq ok
  have := JL.xall (Q := Q) (ds := ds) (rest := []) o h hM (by intro i b hb; simp at hb) ⟨allEq_twice _, ho, h1⟩ hi (fun w' hp => JL.nil (JE.keep hs (k w' hp.ch hp.mem)))
  rw [List.append_nil] at this
  exact JC.region this
/-- It makes one block. -/
theorem JL.x1 {F' : Nat → Fr} {H' : Nat → Hp} {ns : Nat → List Nat} {olds : Nat → List (Addr × Value)} {ones : Nat → List Value} {ins : Nat → List (IntKind × Int)} (m : Nat) (hM : Mem B pre φ H w) (ok : ∀ b, (xops P false n ops ex (rest.take m) F ⟨H, hints, [b], [], [], []⟩ []).map (tmatch (F' b)) = tmeant (F' b) ⟨H' b, [], [], twice (ns b), olds b, ones b⟩ (ins b)) (ho : ∀ b, Olds φ (olds b)) (h1 : ∀ b, Ones (ones b)) (hi : ∀ b, Ins (ins b))
    (k : ∀ b w', w.heap.size ≤ b → Ch (Names H) w w' → Mem B pre φ (H' b) w' → JL P n ds ops Q (rest.drop m) (F' b) w') : JL P n ds ops Q rest F w := by
  obtain ⟨F1, h, hs⟩ := tmatch_eq (ok w.heap.size)
  have := JL.xall (Q := Q) (ds := ds) (rest := rest.drop m) (rest.take m) h hM (by intro i b hb; cases i with | zero => simp at hb; omega | succ i => simp at hb) ⟨allEq_twice _, ho _, h1 _⟩ (hi _) (fun w' hp => JL.keep hs (k _ w' (Nat.le_refl _) hp.ch hp.mem))
  rwa [List.take_append_drop] at this
theorem JC.x1 {F' : Nat → Fr} {H' : Nat → Hp} {ns : Nat → List Nat} {olds : Nat → List (Addr × Value)} {ones : Nat → List Value} {ins : Nat → List (IntKind × Int)} (hM : Mem B pre φ H w) {id : Nat} {o : List Oper} (ok : ∀ b, (xops P false n o.toArray ex o F ⟨H, hints, [b], [], [], []⟩ []).map (tmatch (F' b)) = tmeant (F' b) ⟨H' b, [], [], twice (ns b), olds b, ones b⟩ (ins b)) (ho : ∀ b, Olds φ (olds b)) (h1 : ∀ b, Ones (ones b)) (hi : ∀ b, Ins (ins b))
    (k : ∀ b w', w.heap.size ≤ b → Ch (Names H) w w' → Mem B pre φ (H' b) w' → JE n ds .normal Q (F' b) w') : JC P n ds (.region id o.toArray false) Q F w := by
  obtain ⟨F1, h, hs⟩ := tmatch_eq (ok w.heap.size)
  have := JL.xall (Q := Q) (ds := ds) (rest := []) o h hM (by intro i b hb; cases i with | zero => simp at hb; omega | succ i => simp at hb) ⟨allEq_twice _, ho _, h1 _⟩ (hi _) (fun w' hp => JL.nil (JE.keep hs (k _ w' (Nat.le_refl _) hp.ch hp.mem)))
  rw [List.append_nil] at this
  exact JC.region this
/-- Pure: neither memory nor wraps. -/
theorem JL.xp (m : Nat) (F' : Fr) (ok : (xops P true n ops [] (rest.take m) F ⟨[], [], [], [], [], []⟩ []).map (tmatch F') = tmeant F' ⟨[], [], [], [], [], []⟩ []) (k : JL P n ds ops Q (rest.drop m) F' w) : JL P n ds ops Q rest F w :=
  JL.xq (ns := []) (olds := []) m (Mem.init w) ok (by simp [Olds]) trivial k
theorem JC.xp {id : Nat} {o : List Oper} (F' : Fr) (ok : (xops P true n o.toArray [] o F ⟨[], [], [], [], [], []⟩ []).map (tmatch F') = tmeant F' ⟨[], [], [], [], [], []⟩ []) (k : JE n ds .normal Q F' w) : JC P n ds (.region id o.toArray false) Q F w :=
  JC.xq (ns := []) (olds := []) (Mem.init w) ok (by simp [Olds]) trivial k
theorem JL.xi (m : Nat) (ex : List Nat) (F' : Fr) (ins : List (IntKind × Int)) (ok : (xops P true n ops ex (rest.take m) F ⟨[], [], [], [], [], []⟩ []).map (tmatch F') = tmeant F' ⟨[], [], [], [], [], []⟩ ins) (hi : Ins ins) (k : JL P n ds ops Q (rest.drop m) F' w) : JL P n ds ops Q rest F w :=
  JL.xq (ns := []) (olds := []) m (Mem.init w) ok (by simp [Olds]) hi k
theorem JC.xi {id : Nat} {o : List Oper} (ex : List Nat) (F' : Fr) (ins : List (IntKind × Int)) (ok : (xops P true n o.toArray ex o F ⟨[], [], [], [], [], []⟩ []).map (tmatch F') = tmeant F' ⟨[], [], [], [], [], []⟩ ins) (hi : Ins ins) (k : JE n ds .normal Q F' w) : JC P n ds (.region id o.toArray false) Q F w :=
  JC.xq (ns := []) (olds := []) (Mem.init w) ok (by simp [Olds]) hi k
/-- In a region that draws its order: what only looks. -/
theorem JS.xall {K : Act → Prop} : ∀ (l : List Oper) {F F' : Fr} {s s' : XS} {i i' : List (IntKind × Int)} {w : World} {rest : List Oper}, xops P true n ops ex l F s i = some (F', s', i') → Mem B pre φ s.H w → Fresh s.fresh w → XOk φ s' → Ins i' →
    JS P n ds ops K rest F' w → JS P n ds ops K (l ++ rest) F w
  | [], F, F', s, s', i, i', w, rest, h, hm, hf, hk, hi, k => by cases h; exact k
  | o :: r, F, F', s, s', i, i', w, rest, h, hm, hf, hk, hi, k => by
    unfold xops at h
    split at h
    · rename_i F1 s1 l1 h1
      have hg := xops_grow r h
      intro a ha
      obtain ⟨v, w1, hr, hp, hc⟩ := xop_sound h1 hm hf (hk.back hg.1.1 hg.1.2.1 hg.1.2.2) (hg.2 hi).left ha
      obtain ⟨rfl, hH⟩ := hp.still rfl
      have next := JS.xall r h hp.mem hp.fresh hk hi k _ hr
      show wpStill P ops w1 K (o :: (r ++ rest)) a
      rcases hc with ⟨hw, rfl, -⟩ | ⟨hw, hc⟩
      · refine wpStill_step fun K' hK => ?_
        rw [if_neg (by simp [hw])]
        exact hK _ next
      · refine wpStill_step fun K' hK => ?_
        rw [if_pos hw]
        show Oper.stillUpon P o a w1 K' _
        rcases hc with hc | ⟨hd, hc⟩
        · rw [hc]; exact ⟨rfl, hK _ next⟩
        · rw [hc]; rw [hd] at next; refine ⟨rfl, ?_⟩; rw [hd]; exact hK _ next
    · cases h
theorem JS.keep {K : Act → Prop} {l L : Fr} (hs : Subs l L) (k : JS P n ds ops K rest L w) : JS P n ds ops K rest l w := fun a ha => k a (ha.subs hs)
theorem JS.xq {K : Act → Prop} (m : Nat) (hM : Mem B pre φ H w) (ok : (xops P true n ops ex (rest.take m) F ⟨H, hints, [], [], [], []⟩ []).map (tmatch F') = tmeant F' ⟨H, [], [], twice ns, olds, []⟩ ins) (ho : Olds φ olds) (hi : Ins ins)
    (k : JS P n ds ops K (rest.drop m) F' w) : JS P n ds ops K rest F w := by
  obtain ⟨F1, h, hs⟩ := tmatch_eq ok
  have := JS.xall (ds := ds) (K := K) (rest := rest.drop m) (rest.take m) h hM (by intro i b hb; simp at hb) ⟨allEq_twice _, ho, by simp [Ones]⟩ hi (JS.keep hs k)
  rwa [List.take_append_drop] at this
theorem JS.xp {K : Act → Prop} (m : Nat) (F' : Fr) (ok : (xops P true n ops [] (rest.take m) F ⟨[], [], [], [], [], []⟩ []).map (tmatch F') = tmeant F' ⟨[], [], [], [], [], []⟩ []) (k : JS P n ds ops K (rest.drop m) F' w) : JS P n ds ops K rest F w :=
  JS.xq (ns := []) (olds := []) m (Mem.init w) ok (by simp [Olds]) trivial k
theorem JS.xi {K : Act → Prop} (m : Nat) (ex : List Nat) (F' : Fr) (ins : List (IntKind × Int)) (ok : (xops P true n ops ex (rest.take m) F ⟨[], [], [], [], [], []⟩ []).map (tmatch F') = tmeant F' ⟨[], [], [], [], [], []⟩ ins) (hi : Ins ins) (k : JS P n ds ops K (rest.drop m) F' w) : JS P n ds ops K rest F w :=
  JS.xq (ns := []) (olds := []) m (Mem.init w) ok (by simp [Olds]) hi k
theorem JL.bsplit {b : Bool} (hy : b = true → JL P n ds ops Q rest F w) (hn : b = false → JL P n ds ops Q rest F w) : JL P n ds ops Q rest F w := by
  cases b
  · exact hn rfl
  · exact hy rfl
theorem JS.bsplit {K : Act → Prop} {b : Bool} (hy : b = true → JS P n ds ops K rest F w) (hn : b = false → JS P n ds ops K rest F w) : JS P n ds ops K rest F w := by
  cases b
  · exact hn rfl
  · exact hy rfl
theorem Olds.nil : Olds φ [] := by simp [Olds]
theorem Ones.nil : Ones [] := by simp [Ones]
/-- What a function of the model tells of what is known. -/
theorem Mem.run {α : Type} {s : Sem α} {x : α} (hM : Mem B pre φ H w) (ok : hrun P true s ⟨H, hints, [], [], [], []⟩ = some (x, ⟨H, [], [], twice ns, [], []⟩)) : s.run P w = .ok x w := by
  obtain ⟨w', hr, hp⟩ := hrun_sound s _ _ _ _ ok hM (by intro i b hb; simp at hb) ⟨allEq_twice _, Olds.nil, Ones.nil⟩
  rw [hr, (hp.still rfl).1]
theorem Run.callF {f : FuncId} {xs : List Operand} {vs : List Value} {ts : Array TypeId} {ty : TypeId} (hc : ∀ args w, (callFunc f args).run P w = .ok (.enter f args) w) (h : xs.map (evO F) = vs.map some) : Run P F (.call ⟨.value (.func f), xs.toArray, ts⟩) ty w (.ok (.enter f vs.toArray) w) := by
  refine Run.call hc ?_
  induction xs generalizing vs with
  | nil => cases vs with
    | nil => exact .nil
    | cons v vs => simp at h
  | cons x xs ih => cases vs with
    | nil => simp at h
    | cons v vs =>
      simp only [List.map_cons, List.cons.injEq] at h
      exact .cons (evE h.1) (ih h.2)
end rules
end
end Go.Proofs.YtodeldmdbeocfaaGreatDoor.Eng
