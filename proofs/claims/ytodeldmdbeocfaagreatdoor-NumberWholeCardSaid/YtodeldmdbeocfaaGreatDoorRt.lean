/- The engine, reflected: regions that draw their order, in an order of ours. Over any program. -/
import Derived.Test.YtodeldmdbeocfaaGreatDoorRs
namespace Go.Proofs.YtodeldmdbeocfaaGreatDoor.Eng
open Go
set_option linter.unusedVariables false
set_option linter.unusedSimpArgs false
section
variable {P : Program} {n : Nat} {ds : List Deferred} {ops : Array Oper} {B : World} {pre : List Nat} {φ : Fz} {ex : List Nat}
theorem xop_value {F F' : Fr} {o : Oper} {s s' : XS} {l : List (IntKind × Int)} {d : Nat} (h : xop P true n ops ex F o s = some (F', s', l)) (hd : o.dst = some d) :
    ∃ v, F' = (d, v) :: F ∧ Nat.blt d n = true ∧ s'.H = s.H ∧ s'.fresh = s.fresh ∧ ((wantF ops F o = some false ∧ v = undef) ∨
      (wantF ops F o = some true ∧ ∀ (a : Act) (w : World), Knows F a → Mem B pre φ s.H w → Fresh s.fresh w → XOk φ s' → Ins l → (execOp a.eval o).run P w = .ok (.value v) w)) := by
  unfold xop at h
  split at h
  · cases h
  · rename_i hw
    rw [hd] at h
    simp only at h
    split at h
    · rename_i hn; cases h; exact ⟨undef, rfl, hn, rfl, rfl, .inl ⟨hw, rfl⟩⟩
    · cases h
  · rename_i hw
    split at h
    · cases h
    rename_i hs
    simp only [Bool.or_eq_true, Bool.not_eq_true', not_or, Bool.not_eq_false] at hs
    obtain ⟨hsel, hall⟩ := hs
    have hex : ∀ {a : Act}, Knows F a → execOp a.eval o = execOp (evF F) o := fun ha => execOp_congr o (fun cs b e => by rw [e] at hsel; exact hsel rfl) (fun x hx => evF_eq ha ((Array.all_eq_true_iff_forall_mem.1 hall) x hx))
    rw [hd] at h
    simp only at h
    split at h
    · rename_i hn
      split at h
      · split at h
        · rename_i k x he
          cases h
          exact ⟨.int k x, rfl, hn, rfl, rfl, .inr ⟨hw, fun a w ha hm hf hk hi => exactOp_run he hall (wrap_kin hi.1) ha⟩⟩
        · cases h
      · split at h
        · rename_i v s2 he
          cases h
          have hfr := hrun_quiet_fresh _ _ _ _ he
          refine ⟨v, rfl, hn, ?_, hfr, .inr ⟨hw, fun a w ha hm hf hk hi => ?_⟩⟩
          · exact hrun_quiet_H _ _ _ _ he
          · obtain ⟨w', hr, hp⟩ := hrun_sound _ _ _ _ _ he hm hf hk
            obtain ⟨rfl, -⟩ := hp.still rfl
            rw [hex ha]; exact hr
        · cases h
    · cases h

def xany (P : Program) (n : Nat) (ops : Array Oper) (ex : List Nat) : List Nat → Array Bool → Fr → XS → List (IntKind × Int) → Option (Array Bool × Fr × XS × List (IntKind × Int))
  | [], L, F, s, l => some (L, F, s, l)
  | i :: r, L, F, s, l => match ops[i]? with
    | some o => match (Region.ready .any ops L).contains i && Region.free .any ops L i && o.dst.isSome with
      | true => match xop P true n ops ex F o s with
        | some (F', s', l') => xany P n ops ex r (L.setIfInBounds i true) F' s' (l' ++ l)
        | none => none
      | false => none
    | none => none
theorem xany_grow : ∀ (pl : List Nat) {L L' : Array Bool} {F F' : Fr} {s s' : XS} {i i' : List (IntKind × Int)}, xany P n ops ex pl L F s i = some (L', F', s', i') → Grown s s' ∧ (Ins i' → Ins i)
  | [], L, L', F, F', s, s', i, i', h => by cases h; exact ⟨Grown.refl _, id⟩
  | j :: r, L, L', F, F', s, s', i, i', h => by
    unfold xany at h
    split at h
    · split at h
      · split at h
        · rename_i F1 s1 l1 h1
          obtain ⟨g, hi⟩ := xany_grow r h
          exact ⟨Grown.trans (xop_grow h1) g, fun h => (hi h).right⟩
        · cases h
      · cases h
    · cases h
theorem JA.xall {K : Act → World → Prop} (hsel : Region.noSelect ops = true) {H : Hp} : ∀ (pl : List Nat) {L L' : Array Bool} {F F' : Fr} {s s' : XS} {i i' : List (IntKind × Int)} {w : World} {f : Nat}, xany P n ops ex pl L F s i = some (L', F', s', i') → s.H = H → s.fresh = [] → XOk φ s' → Ins i' →
    JA P n ds ops (Mem B pre φ H) K f L' F' w → JA P n ds ops (Mem B pre φ H) K (f + pl.length) L F w
  | [], L, L', F, F', s, s', i, i', w, f, h, hH, hf, hk, hi, k => by cases h; exact k
  | j :: r, L, L', F, F', s, s', i, i', w, f, h, hH, hf, hk, hi, k => by
    unfold xany at h
    split at h
    · rename_i o ho
      split at h
      · rename_i hc
        simp only [Bool.and_eq_true] at hc
        obtain ⟨⟨hr, hfree⟩, hdst⟩ := hc
        obtain ⟨d, hd⟩ := Option.isSome_iff_exists.1 hdst
        split at h
        · rename_i F1 s1 l1 h1
          obtain ⟨g, hg⟩ := xany_grow r h
          obtain ⟨v, rfl, hn, hH1, hf1, hv⟩ := xop_value (B := B) (pre := pre) h1 hd
          have hI1 := (hg hi).left
          intro a ha
          have next := JA.xall hsel r h (hH1.trans hH) (hf1.trans hf) hk hi k (a.put o.dst v) (by rw [hd]; exact ha.put hn)
          refine wpI_first ho (Region.noSelect_spec hsel) (f + r.length) L a w (Region.free_spec ho hfree) (by simpa using hr) ?_ next
          rcases hv with ⟨hw, rfl⟩ | ⟨hw, hv⟩
          · exact .inr ⟨wantF_eq hw ha.knows, rfl⟩
          · exact .inl ⟨wantF_eq hw ha.knows, fun w' hm => .inl (hv a w' ha.knows (by rw [hH]; exact hm) (by rw [hf]; exact fresh0) (hk.of g) hI1)⟩
        · cases h
      · cases h
    · cases h
/-- These are taken ahead of all that is left: they only look. -/
theorem JA.xt {K : Act → World → Prop} {H : Hp} {hints : List Hint} {ns : List Nat} {olds : List (Addr × Value)} {ins : List (IntKind × Int)} {L L' : Array Bool} {F F' : Fr} {w : World} {f0 : Nat} (f : Nat) (pl : List Nat) (hf : f + pl.length = f0) (hsel : Region.noSelect ops = true)
    (ok : (xany P n ops ex pl L F ⟨H, hints, [], [], [], []⟩ []).map (fun r => (r.1, tmatch F' r.2)) = some (L', F'.map (fun p => some p.2), ⟨H, [], [], twice ns, olds, []⟩, ins)) (ho : Olds φ olds) (hi : Ins ins)
    (k : JA P n ds ops (Mem B pre φ H) K f L' F' w) : JA P n ds ops (Mem B pre φ H) K f0 L F w := by
  subst hf
  cases hx : xany P n ops ex pl L F ⟨H, hints, [], [], [], []⟩ [] with
  | none => rw [hx] at ok; cases ok
  | some r =>
    obtain ⟨L1, F1, s1, i1⟩ := r
    rw [hx] at ok
    simp only [Option.map_some, tmatch, Option.some.injEq, Prod.mk.injEq] at ok
    obtain ⟨rfl, h1, rfl, rfl⟩ := ok
    exact JA.xall hsel pl hx rfl rfl ⟨allEq_twice _, ho, by simp [Ones]⟩ hi (fun a ha => k a (ha.subs (subs_of h1)))
/-- The call that is left alone; nothing known is touched. -/
theorem JA.xc {K : Act → World → Prop} {H : Hp} (i : Nat) {d : Nat} {op : Op} {ty : TypeId} {pos : String} {af : Array Edge} {fn : FuncId} {args : Array Value} {R : Ending → World → Prop} {L L' : Array Bool} {F : Fr} {w : World} {f : Nat} (hM : Mem B pre φ H w) (ho : ops[i]? = some ⟨some d, op, ty, pos, af, none⟩) (hr : Region.ready .any ops L = [i]) (hL : L.setIfInBounds i true = L') (hd : Nat.blt d n = true)
    (h : Run P F op ty w (.ok (.enter fn args) w)) (hc : Calls P fn args w R) (k : ∀ e w'', R e w'' → ∃ v, e = .returned v ∧ JA P n ds ops (Mem B pre φ H) K f L' ((d, v) :: F) w'') : JA P n ds ops (Mem B pre φ H) K (f + 1) L F w :=
  JA.onlyc i ho hr hL hd hM h hc k
theorem JA.xdone {Q : Exit → Act → World → Prop} {H : Hp} {L : Array Bool} {F : Fr} {w : World} {f : Nat} (hM : Mem B pre φ H w) (hr : (Region.ready .any ops L).isEmpty = true) (k : JE n ds .normal Q F w) : JA P n ds ops (Mem B pre φ H) (Q .normal) f L F w := JA.done hr hM k
theorem JC.anyx {Q : Exit → Act → World → Prop} {H : Hp} {F : Fr} {w : World} {id : Nat} (f : Nat) (hm : P.follows .mixedOrders = true) (hf : ops.size = f) (hM : Mem B pre φ H w) (k : ∀ w', Ch No w w' → Mem B pre φ H w' → JA P n ds ops (Mem B pre φ H) (Q .normal) f (Array.replicate f false) F w') : JC P n ds (.region id ops true) Q F w :=
  JC.any _ hm hf (fun w' h => k w' h (hM.no h))
theorem JA.bsplit {K : Act → World → Prop} {I : World → Prop} {f : Nat} {L : Array Bool} {F : Fr} {w : World} {b : Bool} (hy : b = true → JA P n ds ops I K f L F w) (hn : b = false → JA P n ds ops I K f L F w) : JA P n ds ops I K f L F w := by
  cases b
  · exact hn rfl
  · exact hy rfl
theorem JA.keep {K : Act → World → Prop} {I : World → Prop} {f : Nat} {M : Array Bool} {F L : Fr} {w : World} (hs : Subs F L) (k : JA P n ds ops I K f M L w) : JA P n ds ops I K f M F w := fun a ha => k a (ha.subs hs)
theorem JE.retx {fn : Func} {R : Ending → World → Prop} {F : Fr} {w : World} {H : Hp} {rs : Array ResultVar} {vs : List Value} {hints : List Hint} {ns : List Nat} (hM : Mem B pre φ H w) (hr : fn.results = rs) (ok : resV P F rs.toList ⟨H, hints, [], [], [], []⟩ = some (vs, ⟨H, [], [], twice ns, [], []⟩)) (hR : R (.returned (tup vs)) w) : JE n [] .ret (bodyPost P fn R) F w := fun a ha =>
  bodyPost_ret (results_run (by rw [hr]) ((resV_sound ha.knows _ ok).2 hM fresh0 ⟨allEq_twice _, Olds.nil, Ones.nil⟩).1) ha.defers hR
theorem JE.endx {fn : Func} {R : Ending → World → Prop} {F : Fr} {w : World} {H : Hp} {rs : Array ResultVar} {vs : List Value} {hints : List Hint} {ns : List Nat} (hM : Mem B pre φ H w) (hr : fn.results = rs) (ok : resV P F rs.toList ⟨H, hints, [], [], [], []⟩ = some (vs, ⟨H, [], [], twice ns, [], []⟩)) (hR : R (.returned (tup vs)) w) : JE n [] .normal (bodyPost P fn R) F w := fun a ha =>
  bodyPost_end (results_run (by rw [hr]) ((resV_sound ha.knows _ ok).2 hM fresh0 ⟨allEq_twice _, Olds.nil, Ones.nil⟩).1) ha.defers hR
/-- A loop, round by round. -/
theorem JC.loopK {Q : Exit → Act → World → Prop} {F : Fr} {w : World} {c : Code} (k : Nat) (h : JC P n ds c (Exit.then (fun a w => Code.rounds P c Q k a w) Q) F w) : JC P n ds (.loop c) Q F w := fun a ha => wp_loop_rounds (k + 1) (h a ha)
theorem JE.round {Q : Exit → Act → World → Prop} {F : Fr} {w : World} {c : Code} {k : Nat} (h : JC P n ds c (Exit.then (fun a w => Code.rounds P c Q k a w) Q) F w) : JE n ds .normal (Exit.then (fun a w => Code.rounds P c Q (k + 1) a w) Q) F w := fun a ha => h a ha
theorem Mem.chNo {H : Hp} {w : World} (h : Mem B [] φ H w) : Ch No B w := h.ch.mono (fun i hi => by simp at hi)
end
end Go.Proofs.YtodeldmdbeocfaaGreatDoor.Eng
