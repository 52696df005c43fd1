/- The engine, rows of laws whose package variables are laid: from the contract to the row's own sentence; from what is laid to cells. -/
import Derived.Test.YtodeldmdbeocfaaGreatDoorEngRow
import Derived.Lib.LaidU8
import Derived.Lay
import Derived.LaidLaws
import Derived.LaidOnce
namespace Go.Proofs.YtodeldmdbeocfaaGreatDoor.Eng
open Go Go.ChangeShapes Go.WideShapes Go.ChangeAt Go.RowKit Go.Deep Go.Joins Go.Lib
set_option linter.unusedVariables false
set_option linter.unusedSimpArgs false
section
variable {H : Type} {enc : TypeId × Value → H}
theorem lift_trueL {C : Checked} {os : Os} {id : FuncId} {fn : Func} {s : ChangeSpec} {T B : TypeId} {fresh handsOn again : Bool} {X : World → Prop} (hX : ∀ w w' : World, w.heap = w'.heap → X w → X w') (own : ownKnob C.prog.godebug = none) (started : os.Started) (noInit : C.prog.inits.idxOf? id = none)
    (hfn : C.prog.funcs[id]? = some fn) (hpar : fn.params = #[T]) (hres : fn.resultTypes = #[B]) (hB : C.prog.underlying B = some .bool) (hl : laidOutB C.prog = true) (hr : C.prog.readableRec T = true) (hrow : T < C.prog.types.size)
    (wit : ∃ (w : World) (tape : Tape) (i : Input), w.os = os ∧ (w.forCall tape i).Shaped C.prog ∧ i.vars = [] ∧ Input.okWide C.prog (w.forCall tape i) .any w.heap.size id i ∧
      ((s.pre enc C.prog fn [] false (w.forCall tape i).memory i.args ∧ X (w.forCall tape i).memory) ∧ sizedMet enc C.prog fn (OpenSpec.ofChange s) false (w.forCall tape i).memory i.args) ∧ ({} : Assume).holds C.prog (lone (Frame.enter C.prog id i.args .normal) [] (w.forCall tape i)))
    (hs : ∀ d : DataW H, s.fn H [d] = { results := [.lit (.bool true)], args := [d] }) (hvars : s.vars = [])
    (walk : ∀ (W : World) (b0 : Nat) (v : Value) (d : DataW H) (p : List MemPlace), Value.okWide C.prog W .any b0 T v → DataW.Trod enc C.prog W 0 (fun _ => true) true T v d p → X W →
      Calls C.prog id #[v] W fun e W' => e = .returned (.bool true) ∧ Ch No W W') :
    ReturnsInHanded {} C os id .any (fun w args => (s.pre enc C.prog fn [] false w args ∧ X w) ∧ sizedMet enc C.prog fn (OpenSpec.ofChange s) false w args) (s.post enc C.prog fn false fresh handsOn again) := by
  refine returnsInHanded_of_change_and (C := C) (X := fun w _ => X w) (fun w w' _ hh h => hX w w' hh h) own started noInit hfn wit ?_
  intro W base args ds gs before hval hW _ _ hL _
  have hW' := hW
  obtain ⟨p, q, hA, hV, hpq, -, -⟩ := hW
  rw [hvars] at hV
  obtain ⟨rfl, rfl⟩ := trodVars_none hV
  rw [hpar] at hA
  obtain ⟨v, d, rfl, rfl, h0⟩ := trodAll_one hA
  rw [List.append_nil] at hpq
  subst hpq
  refine (walk W base v d before (hval 0 T v (by rw [hpar]; rfl) rfl) h0 hL).mono fun e W' he => ?_
  have hb := he.2.below
  have hw := hW'
  refine ⟨_, he.1, post_of_below (pa := before) (pv := []) hw (fun _ _ _ => ?_) (fun sp hsp => ?_) (fun sp _ => ?_) (by simp) hb ?_⟩
  · rw [hres, List.append_nil, hs]; exact trodAll_mk1 (shut_bool hB _)
  · rw [hpar, List.append_nil, hs]; exact trodAll_mk1 (WideElems.Trod_stays hl hr hrow h0 (fun x hx => hb.same (hW'.lt x hx)) hsp)
  · rw [hvars, List.append_nil, hs]; rfl
  · rw [hres]; exact fun j t r h1 h2 => ok_one (f := fn) hres rfl (okWide_bool_mk hB _) j t r (by rw [hres]; exact h1) (by rw [hres]; exact h2)
variable {P : Program} {w : World} {base : Nat} {sp : Nat → Bool} {held : Bool} {fuel : Nat} {t : TypeId} {cs : List Value} {q : List MemPlace}
theorem trod_intE {k : IntKind} {z : Int} (ht : P.underlying t = some (.int k)) (h : DataW.trod enc P w base sp held fuel t cs = some (.lit (.int k z), q)) : cs = [.int k z] := by
  obtain ⟨n, rfl, hx, _⟩ := DataW.trod_int ht h
  simp only [Prod.mk.injEq, DataW.lit.injEq, Lit.int.injEq, true_and] at hx
  rw [hx.1]
theorem trod_boolE {b : Bool} (ht : P.underlying t = some .bool) (h : DataW.trod enc P w base sp held fuel t cs = some (.lit (.bool b), q)) : cs = [.bool b] := by
  obtain ⟨c, rfl, hx⟩ := DataW.trod_bool ht h
  simp only [Prod.mk.injEq, DataW.lit.injEq, Lit.bool.injEq] at hx
  rw [hx.1]
theorem trod_floatE {k : FloatKind} {b : Nat} (ht : P.underlying t = some (.float k)) (h : DataW.trod enc P w base sp held fuel t cs = some (.lit (.float k b), q)) : cs = [.float k b] := by
  cases fuel with
  | zero => simp [DataW.trod] at h
  | succ n =>
    unfold DataW.trod at h
    rw [ht] at h
    simp only at h
    split at h <;> simp_all
/-- One cell of a package variable that reads as this. -/
theorem cell_of_var {n : String} {d : DataW Unit} {g : Nat} {ty : TypeId} (h : VarReads P w n d) (hg : P.globalNamed n = some g) (hy : (P.globals[g]?).map (·.type) = some ty) :
    ∃ cs fuel p, DataW.trod (fun _ => ()) P w 0 (fun _ => true) false fuel ty cs = some (d, p) ∧ ∀ i v, cs[i]? = some v → w.cell? ⟨g, i, none⟩ = some v := by
  obtain ⟨g', t', cs, fuel, p, hg', hty, hvar, hd⟩ := h
  obtain rfl := Option.some.inj (hg.symm.trans hg')
  obtain rfl := Option.some.inj (hy.symm.trans hty)
  exact ⟨cs.toList, fuel, p, hd, fun i v hi => by rw [World.var?_cell hg hvar i, ← Array.getElem?_toList]; exact hi⟩
theorem take1 {l : List Value} {v : Value} {i : Nat} (h : (l.drop (i * 1)).take 1 = [v]) : l[i]? = some v := by
  have := congrArg (·[0]?) h
  simpa [List.getElem?_take, List.getElem?_drop] using this
/-- An element of an array of numbers. -/
theorem array_int {ds : List (DataW H)} {n i : Nat} {e : TypeId} {k : IntKind} {z : Int} (ht : P.underlying t = some (.array n e)) (he : P.underlying e = some (.int k)) (hc : P.cellsOf e = 1)
    (h : DataW.trod enc P w base sp held fuel t cs = some (.agg ds, q)) (hi : i < n) (hd : ds[i]? = some (.lit (.int k z))) : cs[i]? = some (.int k z) := by
  obtain ⟨f', d, q', h1, h2⟩ := array_elem ht h i hi
  obtain rfl := Option.some.inj (h1.symm.trans hd)
  rw [hc] at h2
  exact take1 (trod_intE he h2)
/-- An element of an array of pairs of numbers. -/
theorem array_pair {ds : List (DataW H)} {n i : Nat} {e : TypeId} {fs : Array Field} {k : IntKind} {x y : Int} (ht : P.underlying t = some (.array n e)) (he : P.underlying e = some (.struct fs))
    (hf : ∀ (i : Nat) (f : Field), fs[i]? = some f → P.underlying f.type = some (.int k) ∧ f.offset = i ∧ P.cellsOf f.type = 1) (hs : fs.size = 2) (hc : P.cellsOf e = 2)
    (h : DataW.trod enc P w base sp held fuel t cs = some (.agg ds, q)) (hi : i < n) (hd : ds[i]? = some (.agg [.lit (.int k x), .lit (.int k y)])) : cs[i * 2]? = some (.int k x) ∧ cs[i * 2 + 1]? = some (.int k y) := by
  obtain ⟨f', d, q', h1, h2⟩ := array_elem ht h i hi
  obtain rfl := Option.some.inj (h1.symm.trans hd)
  rw [hc] at h2
  have h3 := ints_of_struct (zs := [x, y]) he hf (by rw [hc, hs]) h2
  have h0 := congrArg (·[0]?) h3
  have h1' := congrArg (·[1]?) h3
  simp [List.getElem?_take, List.getElem?_drop] at h0 h1'
  exact ⟨h0, h1'⟩
/-- A field of a struct that is a number. -/
theorem struct_int {ds : List (DataW H)} {fs : Array Field} {i : Nat} {f : Field} {k : IntKind} {z : Int} (ht : P.underlying t = some (.struct fs)) (hf : fs[i]? = some f) (hu : P.underlying f.type = some (.int k)) (hc : P.cellsOf f.type = 1)
    (h : DataW.trod enc P w base sp held fuel t cs = some (.agg ds, q)) (hd : ds[i]? = some (.lit (.int k z))) : cs[f.offset]? = some (.int k z) := by
  obtain ⟨xs, n, rfl, hx, hl, hxl, hall⟩ := DataW.trod_struct ht h
  have h1 := hall i f hf
  have hds : xs.map (·.1) = ds := by
    have := congrArg Prod.fst hx
    simpa using this.symm
  obtain ⟨b, hb⟩ : ∃ b, xs[i]? = some b := by
    rw [← hds, List.getElem?_map] at hd
    cases hxi : xs[i]? with
    | none => rw [hxi] at hd; cases hd
    | some b => exact ⟨b, rfl⟩
  rw [hb, hc] at h1
  have hb1 : b.1 = .lit (.int k z) := by
    rw [← hds, List.getElem?_map, hb] at hd
    simpa using hd
  obtain ⟨b1, b2⟩ := b
  simp only at hb1; subst hb1
  have h2 := trod_intE hu h1
  have := congrArg (·[0]?) h2
  simpa [List.getElem?_take, List.getElem?_drop] using this
/-- A slice of floats. -/
theorem slice_floats {ds : List (DataW H)} {e : TypeId} {k : FloatKind} (ht : P.underlying t = some (.slice e)) (he : P.underlying e = some (.float k)) (hc : P.cellsOf e = 1) (hne : ds ≠ [])
    (h : DataW.trod enc P w base sp held fuel t cs = some (.slice ds [], q)) : ∃ b o cap, cs = [.slice (some ⟨b, o, none⟩) ds.length cap] ∧ ∀ (i : Nat) (z : Nat), i ≠ 0 → ds[i]? = some (.lit (.float k z)) → w.cell? ⟨b, o + i, none⟩ = some (.float k z) := by
  rcases open_slice1 ht hc h with ⟨-, h0⟩ | ⟨a, len, cap, m, n, V, D, Pl, hcs, hb, hl, hm, hmm, hx, hi⟩
  · cases h0
  · simp only [Prod.mk.injEq, DataW.slice.injEq] at hx
    obtain ⟨⟨hd, _⟩, _⟩ := hx
    have hlen : ds.length = len := by rw [hd]; simp
    have hpos : 0 < len := by
      rcases Nat.eq_zero_or_pos len with h0 | h0
      · rw [h0] at hlen; exact absurd (List.length_eq_zero_iff.1 hlen) hne
      · exact h0
    have hlm : len ≤ m := by rw [hmm]; split <;> omega
    have hsp : a.spot = none := by
      have := (hi 0 (by omega)).1
      rcases cell_add this with h | h
      · exact h
      · exact absurd rfl h
    refine ⟨a.block, a.off, cap, ?_, fun i z hi0 hz => ?_⟩
    · rw [hcs, hlen, ← hsp]
    · have hil : i < len := by rw [← hlen]; exact (List.getElem?_eq_some_iff.1 hz).1
      obtain ⟨h1, h2⟩ := hi i (by omega)
      have hDi : D i = .lit (.float k z) := by
        rw [hd, List.getElem?_map, List.getElem?_range hil] at hz
        simpa using hz
      rw [hDi] at h2
      have h3 := trod_floatE he h2
      simp only [List.cons.injEq, and_true] at h3
      rw [addr_eta a i (.inr hi0), h3] at h1
      exact h1
end
section
variable {H : Type} {enc : TypeId × Value → H} {P : Program}
/-- A slice of numbers of 64 bits that came in. -/
theorem open_u64s {W : World} {base : Nat} {spare : Nat → Bool} {held : Bool} {t e : TypeId} {fuel : Nat} {v : Value} {x : DataW H × List MemPlace} (ht : P.underlying t = some (.slice e)) (he : P.underlying e = some (.int .u64)) (hc : P.cellsOf e = 1)
    (h : DataW.trod enc P W base spare held fuel t [v] = some x) : ∃ (a : Option Addr) (xs : List Nat) (cap : Nat), v = .slice a xs.length cap ∧ ∀ i, (h : i < xs.length) → ∃ b o, a = some ⟨b, o, none⟩ ∧ W.cell? ⟨b, o + i * 1, none⟩ = some (.int .u64 (xs[i] : Int)) ∧ xs[i] < 18446744073709551616 := by
  rcases open_ints ht he hc h with ⟨hv, hx⟩ | ⟨a, len, cap, zs, hv, hb, hl, hm, hz, hx, hcell, hwf⟩
  · exact ⟨none, [], 0, by simpa using hv, fun i hi => by simp at hi⟩
  · have hv' : v = .slice (some a) len cap := by simpa using hv
    have hlen : len ≤ zs.length := by rw [hz]; split <;> omega
    refine ⟨some a, (zs.take len).map Int.toNat, cap, ?_, fun i hi => ?_⟩
    · rw [hv']; simp [Nat.min_eq_left hlen]
    · have hil : i < len := by simp at hi; omega
      have hsp : a.spot = none := by
        rcases cell_add (hcell 0 (by omega)) with h | h
        · exact h
        · exact absurd rfl h
      refine ⟨a.block, a.off, by rw [← hsp], ?_⟩
      have h1 := hcell i (by omega)
      rw [addr_eta a i (.inl hsp)] at h1
      have hw := hwf zs[i] (List.getElem_mem (by omega))
      simp [Lit.wf, IntKind.min, IntKind.max, IntKind.signed, IntKind.bits] at hw
      have he2 : ((zs.take len).map Int.toNat)[i]'hi = zs[i].toNat := by simp
      have hg : zs.getD i 0 = zs[i] := by simp [List.getD, List.getElem?_eq_getElem (by omega : i < zs.length)]
      rw [he2, Nat.mul_one, h1, hg]
      have := hw.1; have := hw.2
      exact ⟨by rw [Int.toNat_of_nonneg (by omega)], by omega⟩
end
end Go.Proofs.YtodeldmdbeocfaaGreatDoor.Eng
