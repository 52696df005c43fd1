/- The engine, last part: from a contract to a row. -/
import Derived.Test.YtodeldmdbeocfaaGreatDoorEngP
import Derived.ProofKit
import Derived.Deep.Slices
import Derived.Deep.Fields
import Derived.Lib.SmallJoins
import Derived.SizedLaws
namespace Go.Proofs.YtodeldmdbeocfaaGreatDoor.Eng
open Go Go.ChangeShapes Go.WideShapes Go.ChangeAt Go.RowKit Go.Deep Go.Joins
set_option linter.unusedVariables false
set_option linter.unusedSimpArgs false
theorem own : ownKnob Tryz.prog.godebug = none := by kernel_rfl
theorem laidOut : laidOutB Tryz.prog = true := by kernel_rfl
section
variable {H : Type} {enc : TypeId × Value → H} {P : Program}
theorem post_of_below {f : Func} {s : ChangeSpec} {apart fresh handsOn again : Bool} {W W' : World} {args : Array Value} {v : Value} {ds gs : List (DataW H)} {before pa pv : List MemPlace}
    (hW : DataW.Whole enc P f.params.toList s.vars apart W args.toList ds gs before)
    (hres : ∀ (b : Nat) (sp : Nat → Bool) (hd : Bool), DataW.TrodAll enc P W' b sp hd f.resultTypes.toList (v.resultList f.resultTypes.size) (s.fn H (ds ++ gs)).results [])
    (hargs : ∀ sp : Nat → Bool, (∀ p ∈ before, sp p.block = true) → DataW.TrodAll enc P W' 0 sp true f.params.toList args.toList (s.fn H (ds ++ gs)).args pa)
    (hvars : ∀ sp : Nat → Bool, (∀ p ∈ before, sp p.block = true) → DataW.TrodVars enc P W' sp s.vars (s.fn H (ds ++ gs)).vars pv)
    (hps : before = pa ++ pv) (hb : Below W.heap.size W W')
    (hok : ∀ (j : Nat) (t : TypeId) (r : Value), f.resultTypes[j]? = some t → (v.resultList f.resultTypes.size)[j]? = some r → Value.okWide P W' .any 0 t r) :
    s.post enc P f apart fresh handsOn again W args v W' := by
  have hlt : ∀ p ∈ before, p.block < W.heap.size := fun p hp => hW.lt p hp
  have hold : ∀ p ∈ before, (fun b => decide (b < W.heap.size)) p.block = true := fun p hp => by simpa using hlt p hp
  refine ⟨ds, gs, before, [], pa, pv, hW, hres _ _ _, hargs _ hold, hvars _ hold, World.keptBut_mono (fun p hp => ⟨hp, ?_⟩) (hb.frame (· ∈ before)), fun _ => ?_⟩
  · rw [hps, List.mem_append] at hp
    exact Or.inr hp
  · obtain ⟨_, _, _, _, _, hz, hn⟩ := hW
    refine ⟨hok, _, _, ([] ++ pa) ++ pv, ⟨[] ++ pa, pv, trodAll_append (hargs _ (fun _ _ => rfl)) (hres _ _ _), hvars _ (fun _ _ => rfl), rfl, ?_, ?_⟩, ?_⟩
    · intro b off hp
      have hin : MemPlace.cell b off ∈ before := by rw [hps]; simpa using hp
      rw [hb.frozen (hlt _ hin)]
      exact hz b off hin
    · intro ha
      have := hn ha
      rw [hps] at this
      simpa using this
    · intro p hp _
      rw [hps]
      simpa using hp

theorem cell_add {w : World} {a : Addr} {k : Nat} {v : Value} (h : w.cell? (a.add k) = some v) : a.spot = none ∨ k ≠ 0 := by
  by_cases hk : k = 0
  · subst hk
    rw [show a.add 0 = a from by simp [Addr.add]] at h
    left
    cases hs : a.spot with
    | none => rfl
    | some s =>
      simp only [World.cell?, hs, Option.isSome] at h
      split at h <;> simp at h
  · exact .inr hk
theorem addr_eta (a : Addr) (k : Nat) (h : a.spot = none ∨ k ≠ 0) : a.add k = ⟨a.block, a.off + k, none⟩ := by
  unfold Addr.add
  by_cases hk : k = 0
  · subst hk
    rcases h with h | h
    · cases a; simp_all
    · exact absurd rfl h
  · rw [if_neg hk]
/-- A slice of bytes that came in. -/
theorem open_bytesW {W : World} {base : Nat} {spare : Nat → Bool} {held : Bool} {t e : TypeId} {fuel : Nat} {v : Value} {x : DataW H × List MemPlace} (ht : P.underlying t = some (.slice e)) (he : P.underlying e = some (.int .u8)) (hc : P.cellsOf e = 1)
    (h : DataW.trod enc P W base spare held fuel t [v] = some x) : ∃ l, SlB W v l ∧ ∀ B, P.bytesOf e = 1 → (∀ n ∈ x.1.weights P t, n ≤ B) → l.length ≤ B := by
  rcases open_ints ht he hc h with ⟨hv, hx⟩ | ⟨a, len, cap, zs, hv, hb, hl, hm, hz, hx, hcell, hwf⟩
  · exact ⟨[], .inl ⟨by simpa using hv, rfl⟩, fun B _ _ => Nat.zero_le _⟩
  · have hv' : v = .slice (some a) len cap := by simpa using hv
    have hlen : len ≤ zs.length := by rw [hz]; split <;> omega
    refine ⟨(zs.take len).map fun z => UInt8.ofNat z.toNat, .inr ⟨a.block, a.off, a.spot, cap, ?_, ?_, ?_, ?_, ?_⟩, fun B hb1 hB => ?_⟩
    · rw [hv']; simp [Nat.min_eq_left hlen]
    · simp; omega
    · unfold maxLen at hm; exact hm
    · intro hne
      have hpos : 0 < len := by
        rcases Nat.eq_zero_or_pos len with h0 | h0
        · subst h0; simp at hne
        · exact h0
      have := hcell 0 (by omega)
      rcases cell_add this with h | h
      · exact h
      · exact absurd rfl h
    · intro j c hj
      rw [List.getElem?_map] at hj
      cases hzj : (zs.take len)[j]? with
      | none => rw [hzj] at hj; cases hj
      | some z =>
        rw [hzj] at hj; simp at hj; subst hj
        rw [List.getElem?_take] at hzj
        split at hzj
        · have hjl : j < zs.length := by omega
          have h1 := hcell j hjl
          rw [addr_eta a j (cell_add h1)] at h1
          rw [h1]
          have h2 : zs.getD j 0 = z := by simp [List.getD, hzj]
          rw [h2]
          have h3 := hwf z (List.mem_of_getElem? hzj)
          simp [Lit.wf, IntKind.min, IntKind.max, IntKind.signed, IntKind.bits] at h3
          unfold bv
          have : ((UInt8.ofNat z.toNat).toNat : Int) = z := by
            rw [UInt8.toNat_ofNat']
            have := h3.1; have := h3.2
            omega
          rw [this]
        · cases hzj
    · have h1 := hB ((lits (H := H) .u8 (zs.take len)).length + (lits (H := H) .u8 (zs.drop len)).length |> (· * P.bytesOf e)) (by rw [hx]; simp [DataW.weights, ht])
      simp [lits, hb1] at h1 ⊢
      omega
theorem open_bytes {W : World} {base : Nat} {spare : Nat → Bool} {held : Bool} {t e : TypeId} {fuel : Nat} {v : Value} {x : DataW H × List MemPlace} (ht : P.underlying t = some (.slice e)) (he : P.underlying e = some (.int .u8)) (hc : P.cellsOf e = 1)
    (h : DataW.trod enc P W base spare held fuel t [v] = some x) : ∃ l, SlB W v l := let ⟨l, hl, _⟩ := open_bytesW ht he hc h; ⟨l, hl⟩
theorem weights_mem {e : TypeId} : ∀ {l : List (DataW H)} {d : DataW H}, d ∈ l → ∀ n ∈ d.weights P e, n ∈ DataW.weightsAll P e l
  | y :: r, d, h, n, hn => by
    rw [DataW.weightsAll, List.mem_append]
    rcases List.mem_cons.1 h with rfl | h
    · exact .inl hn
    · exact .inr (weights_mem h n hn)
/-- A law of one argument that answers true and leaves what was there: from its contract to the row's own sentence. -/
theorem lift_true {C : Checked} {os : Os} {id : FuncId} {fn : Func} {s : ChangeSpec} {T B : TypeId} {fresh handsOn again : Bool} (own : ownKnob C.prog.godebug = none) (started : os.Started) (noInit : C.prog.inits.idxOf? id = none)
    (hfn : C.prog.funcs[id]? = some fn) (hpar : fn.params = #[T]) (hres : fn.resultTypes = #[B]) (hB : C.prog.underlying B = some .bool) (hl : laidOutB C.prog = true) (hr : C.prog.readableRec T = true) (hrow : T < C.prog.types.size)
    (wit : ∃ (w : World) (tape : Tape) (i : Input), w.os = os ∧ (w.forCall tape i).Shaped C.prog ∧ i.vars = [] ∧ Input.okWide C.prog (w.forCall tape i) .any w.heap.size id i ∧
      s.pre6 enc C.prog fn [] false (w.forCall tape i).memory i.args ∧ ({} : Assume).holds C.prog (lone (Frame.enter C.prog id i.args .normal) [] (w.forCall tape i)))
    (hs : ∀ d : DataW H, s.fn H [d] = { results := [.lit (.bool true)], args := [d] }) (hvars : s.vars = [])
    (walk : ∀ (W : World) (b0 : Nat) (v : Value) (d : DataW H) (p : List MemPlace), Value.okWide C.prog W .any b0 T v → DataW.Trod enc C.prog W 0 (fun _ => true) true T v d p →
      Calls C.prog id #[v] W fun e W' => e = .returned (.bool true) ∧ Ch No W W') :
    ReturnsInHanded {} C os id .any (s.pre6 enc C.prog fn [] false) (s.post enc C.prog fn false fresh handsOn again) := by
  refine returnsInHanded_of_change own started noInit hfn wit ?_
  intro W base args ds gs before hval hW _ _
  have hW' := hW
  obtain ⟨p, q, hA, hV, hpq, -, -⟩ := hW
  rw [hvars] at hV
  obtain ⟨rfl, rfl⟩ := trodVars_none hV
  rw [hpar] at hA
  obtain ⟨v, d, rfl, rfl, h0⟩ := trodAll_one hA
  rw [List.append_nil] at hpq
  subst hpq
  refine (walk W base v d before (hval 0 T v (by rw [hpar]; rfl) rfl) h0).mono fun e W' he => ?_
  have hb := he.2.below
  have hw := hW'
  refine ⟨_, he.1, post_of_below (pa := before) (pv := []) hw (fun _ _ _ => ?_) (fun sp hsp => ?_) (fun sp _ => ?_) (by simp) hb ?_⟩
  · rw [hres, List.append_nil, hs]; exact trodAll_mk1 (shut_bool hB _)
  · rw [hpar, List.append_nil, hs]; exact trodAll_mk1 (WideElems.Trod_stays hl hr hrow h0 (fun x hx => hb.same (hW'.lt x hx)) hsp)
  · rw [hvars, List.append_nil, hs]; rfl
  · rw [hres]; exact fun j t r h1 h2 => ok_one (f := fn) hres rfl (okWide_bool_mk hB _) j t r (by rw [hres]; exact h1) (by rw [hres]; exact h2)
/-- The same, where the reach's bound is of use: no slice that came in is longer than the machine's memory. -/
theorem lift_trueS {C : Checked} {os : Os} {id : FuncId} {fn : Func} {s : ChangeSpec} {T B : TypeId} {fresh handsOn again : Bool} (own : ownKnob C.prog.godebug = none) (started : os.Started) (noInit : C.prog.inits.idxOf? id = none)
    (hfn : C.prog.funcs[id]? = some fn) (hpar : fn.params = #[T]) (hres : fn.resultTypes = #[B]) (hB : C.prog.underlying B = some .bool) (hl : laidOutB C.prog = true) (hr : C.prog.readableRec T = true) (hrow : T < C.prog.types.size)
    (wit : ∃ (w : World) (tape : Tape) (i : Input), w.os = os ∧ (w.forCall tape i).Shaped C.prog ∧ i.vars = [] ∧ Input.okWide C.prog (w.forCall tape i) .any w.heap.size id i ∧
      s.pre6 enc C.prog fn [] false (w.forCall tape i).memory i.args ∧ ({} : Assume).holds C.prog (lone (Frame.enter C.prog id i.args .normal) [] (w.forCall tape i)))
    (hs : ∀ d : DataW H, s.fn H [d] = { results := [.lit (.bool true)], args := [d] }) (hvars : s.vars = [])
    (walk : ∀ (W : World) (b0 : Nat) (v : Value) (d : DataW H) (p : List MemPlace), Value.okWide C.prog W .any b0 T v → DataW.Trod enc C.prog W 0 (fun _ => true) true T v d p → (∀ n ∈ d.weights C.prog T, n ≤ reachBytes) →
      Calls C.prog id #[v] W fun e W' => e = .returned (.bool true) ∧ Ch No W W') :
    ReturnsInHanded {} C os id .any (s.pre6 enc C.prog fn [] false) (s.post enc C.prog fn false fresh handsOn again) := by
  refine returnsInHanded_of_change_sized own started noInit hfn wit ?_
  intro W base args ds gs before hval hW _ hzz _
  have hW' := hW
  obtain ⟨p, q, hA, hV, hpq, -, -⟩ := hW
  rw [hvars] at hV
  obtain ⟨rfl, rfl⟩ := trodVars_none hV
  rw [hpar] at hA
  obtain ⟨v, d, rfl, rfl, h0⟩ := trodAll_one hA
  rw [List.append_nil] at hpq
  subst hpq
  refine (walk W base v d before (hval 0 T v (by rw [hpar]; rfl) rfl) h0 (fun n hn => by
    have := List.all_eq_true.1 hzz n (DataW.weights_mem_each (j := 0) (t := T) (d := d) (by rw [hpar]; rfl) rfl n hn)
    simpa using this)).mono fun e W' he => ?_
  have hb := he.2.below
  have hw := hW'
  refine ⟨_, he.1, post_of_below (pa := before) (pv := []) hw (fun _ _ _ => ?_) (fun sp hsp => ?_) (fun sp _ => ?_) (by simp) hb ?_⟩
  · rw [hres, List.append_nil, hs]; exact trodAll_mk1 (shut_bool hB _)
  · rw [hpar, List.append_nil, hs]; exact trodAll_mk1 (WideElems.Trod_stays hl hr hrow h0 (fun x hx => hb.same (hW'.lt x hx)) hsp)
  · rw [hvars, List.append_nil, hs]; rfl
  · rw [hres]; exact fun j t r h1 h2 => ok_one (f := fn) hres rfl (okWide_bool_mk hB _) j t r (by rw [hres]; exact h1) (by rw [hres]; exact h2)
end
end Go.Proofs.YtodeldmdbeocfaaGreatDoor.Eng
