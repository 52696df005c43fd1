/- The engine: a region that draws its order, where what stands in memory hangs on what is already carried out: a look that an operation waits for need only tell its value while that one is not carried out. -/
import Derived.Test.YtggngmmbpkoooaaBk
import Derived.Laws.IdiomStrings
namespace Go.Proofs.Ytggngmmbpkoooaa.Eng
open Go Go.Proofs.Ytggngmmbpkoooaa.Bk
set_option linter.unusedVariables false
set_option linter.unusedSimpArgs false
section
variable {P : Program} {ops : Array Oper} {Q : Exit → Act → World → Prop} {I : Array Bool → World → Prop} {md : Region.Mode}
def wpJ (P : Program) (md : Region.Mode) (ops : Array Oper) (I : Array Bool → World → Prop) (K : Act → World → Prop) : Nat → Array Bool → Act → World → Prop
  | 0, listed, a, w => I listed w ∧ Region.ready md ops listed = [] ∧ K a w
  | f + 1, listed, a, w => I listed w ∧ (Region.ready md ops listed = [] → K a w) ∧ ∀ i ∈ Region.ready md ops listed, opI P ops i (wpJ P md ops I K f (listed.setIfInBounds i true)) a w
theorem wpJ.any : ∀ (f : Nat) (listed : Array Bool) (a : Act) (w : World), wpJ P md ops I (Q .normal) f listed a w → wpAny P md ops Q f listed a w
  | 0, listed, a, w, h => h.2
  | f + 1, listed, a, w, h => ⟨h.2.1, fun i hi => (opI.mono (fun a' w' h' => wpJ.any f _ a' w' h') (h.2.2 i hi)).wp⟩
theorem wpJ_first {i b : Nat} {oi ob : Oper} {v : Value} {K : Act → World → Prop} (hi : ops[i]? = some oi) (hsel : ∀ (j : Nat) (o : Oper) cs b, ops[j]? = some o → o.op ≠ .select cs b)
    (hmono : ∀ L w, I (L.setIfInBounds i true) w → I L w) (hb : ops[b]? = some ob) (hbe : ∃ e ∈ ob.after, Region.binds md e = true ∧ e.on = i) (hib : i ≠ b) :
    ∀ (fuel : Nat) (listed : Array Bool) (a : Act) (w : World),
      (∀ j oj, ops[j]? = some oj → j ≠ i → listed.getD j true = false → (∀ e ∈ oj.after, Region.binds md e = true → e.on ≠ i) → oi.apart ops oj = true) →
      i ∈ Region.ready md ops listed → listed.getD b true = false → YieldsI P ops (fun w => ∃ L : Array Bool, L.getD b true = false ∧ I L w) oi v a →
      wpJ P md ops I K fuel (listed.setIfInBounds i true) (a.put oi.dst v) w → wpJ P md ops I K (fuel + 1) listed a w := by
  intro fuel
  induction fuel with
  | zero =>
    intro listed a w _ hr hbl hy H
    have hI := hmono _ _ H.1
    refine ⟨hI, fun h => (by rw [h] at hr; cases hr), fun j hj => ?_⟩
    by_cases hji : j = i
    · subst hji; exact hy.op hi ⟨_, hbl, hI⟩ H
    · have := ready_mono hj hji
      rw [H.2.1] at this
      cases this
  | succ fuel ih =>
    intro listed a w hfree hr hbl hy H
    have hI := hmono _ _ H.1
    refine ⟨hI, fun h => (by rw [h] at hr; cases hr), fun j hj => ?_⟩
    by_cases hji : j = i
    · subst hji; exact hy.op hi ⟨_, hbl, hI⟩ H
    · have h1 := H.2.2 j (ready_mono hj hji)
      obtain ⟨hjun, oj, hoj, hall⟩ := mem_ready.1 hj
      have hun := (mem_ready.1 hr).1
      have hnot : ∀ e ∈ oj.after, Region.binds md e = true → e.on ≠ i := fun e he hb heq => by
        have h1 := hall e he hb
        rw [heq] at h1
        rcases Nat.lt_or_ge i listed.size with h' | h'
        · rw [Array.getD_eq_getD_getElem?, Array.getElem?_eq_getElem h'] at h1 hun
          simp at h1 hun
          rw [h1] at hun; cases hun
        · rw [Array.getD_eq_getD_getElem?, Array.getElem?_eq_none h'] at h1
          simp at h1
      have hjb : j ≠ b := fun h => by
        subst h
        obtain rfl : oj = ob := Option.some.inj (hoj.symm.trans hb)
        obtain ⟨e, he, hbi, hon⟩ := hbe
        exact hnot e he hbi hon
      have h2 := opI_put hoj (hfree j oj hoj hji hjun hnot) (fun cs b => hsel i oi cs b hi) (fun cs b => hsel j oj cs b hoj) hy h1
      have hfree' : ∀ k ok, ops[k]? = some ok → k ≠ i → (listed.setIfInBounds j true).getD k true = false →
          (∀ e ∈ ok.after, Region.binds md e = true → e.on ≠ i) → oi.apart ops ok = true := fun k ok hk hki hun hno => by
        refine hfree k ok hk hki ?_ hno
        by_cases hjk : j = k
        · subst hjk; exact hjun
        · rw [getD_set_ne true hjk] at hun; exact hun
      refine opI.mono (fun a' w' h3 => ih (listed.setIfInBounds j true) a' w' hfree' (ready_mono hr (Ne.symm hji)) (by rw [getD_set_ne true hjb]; exact hbl) h3.1 ?_) h2
      rw [Array.setIfInBounds_comm _ _ hji]
      exact h3.2
end
section
variable {P : Program} {n : Nat} {ds : List Deferred} {ops : Array Oper} {Q : Exit → Act → World → Prop} {I : Array Bool → World → Prop} {l : Fr} {w : World} {listed : Array Bool} {f : Nat}
def JB (P : Program) (n : Nat) (ds : List Deferred) (ops : Array Oper) (I : Array Bool → World → Prop) (K : Act → World → Prop) (f : Nat) (listed : Array Bool) (l : Fr) (w : World) : Prop := ∀ a, Rep n ds l a → wpJ P .any ops I K f listed a w
theorem JC.anyJ {id : Nat} (I : Array Bool → World → Prop) (hm : P.follows .mixedOrders = true) (hf : ops.size = f) (k : ∀ w', Ch No w w' → JB P n ds ops I (Q .normal) f (Array.replicate f false) l w') : JC P n ds (.region id ops true) Q l w := fun a ha => by
  subst hf
  exact wp_region_any hm (wpJ.any _ _ _ _ (k w.drew (Ch.drew1 w) a ha))
variable {K : Act → World → Prop}
theorem JB.done (hr : (Region.ready .any ops listed).isEmpty = true) (hI : I listed w) (k : JE n ds .normal Q l w) : JB P n ds ops I (Q .normal) f listed l w := fun a ha => by
  have hr' : Region.ready .any ops listed = [] := by simpa using hr
  cases f with
  | zero => exact ⟨hI, hr', k a ha⟩
  | succ f => exact ⟨hI, fun _ => k a ha, fun i hi => by rw [hr'] at hi; cases hi⟩
def waitsB (ops : Array Oper) (b i : Nat) : Bool := match ops[b]? with
  | some o => o.after.any fun e => Region.binds .any e && Nat.beq e.on i
  | none => false
/-- taken ahead of all that is left; b waits for it. -/
theorem JB.take (i b : Nat) {d : Nat} {op : Op} {ty : TypeId} {pos : String} {af : Array Edge} {v : Value} {L : Array Bool} (hs : Region.noSelect ops = true) (ho : ops[i]? = some ⟨some d, op, ty, pos, af, none⟩) (hr : (Region.ready .any ops listed).contains i = true) (hf : Region.free .any ops listed i = true) (hL : listed.setIfInBounds i true = L) (hd : Nat.blt d n = true)
    (hb : waitsB ops b i = true) (hib : Nat.beq i b = false) (hbl : listed.getD b true = false) (hmono : ∀ L w, I (L.setIfInBounds i true) w → I L w)
    (h : ∀ (L : Array Bool) w, L.getD b true = false → I L w → Run P l op ty w (.ok (.value v) w)) (k : JB P n ds ops I K f L ((d, v) :: l) w) : JB P n ds ops I K (f + 1) listed l w := fun a ha => by
  subst hL
  unfold waitsB at hb
  cases hob : ops[b]? with
  | none => rw [hob] at hb; cases hb
  | some ob =>
    rw [hob] at hb
    simp only [Array.any_eq_true'] at hb
    obtain ⟨e, he, hbe⟩ := hb
    simp only [Bool.and_eq_true] at hbe
    exact wpJ_first ho (Region.noSelect_spec hs) hmono hob ⟨e, he, hbe.1, Nat.eq_of_beq_eq_true hbe.2⟩ (fun h => by subst h; simp at hib) f listed a w (Region.free_spec ho hf) (by simpa using hr) hbl (.inl ⟨by simp [Region.wanted], fun w' ⟨L, hLb, hI⟩ => .inl (h L w' hLb hI a ha.knows _ _ _ _)⟩) (k _ (ha.put hd))
theorem JB.only (i : Nat) {d : Nat} {op : Op} {ty : TypeId} {pos : String} {af : Array Edge} {v : Value} {w' : World} {L : Array Bool} (ho : ops[i]? = some ⟨some d, op, ty, pos, af, none⟩) (hr : Region.ready .any ops listed = [i]) (hL : listed.setIfInBounds i true = L) (hd : Nat.blt d n = true)
    (hI : I listed w) (h : Run P l op ty w (.ok (.value v) w')) (k : JB P n ds ops I K f L ((d, v) :: l) w') : JB P n ds ops I K (f + 1) listed l w := fun a ha => by
  subst hL
  refine ⟨hI, (fun h0 => absurd (hr.symm.trans h0) (by simp)), fun j hj => ?_⟩
  rw [hr] at hj
  obtain rfl : j = i := by simpa using hj
  exact ⟨_, ho, .inl ⟨by simp [Region.wanted], .inl ⟨v, w', h a ha.knows _ _ _ _, k _ (ha.put hd)⟩⟩⟩
theorem JB.onlys (i : Nat) {op : Op} {ty : TypeId} {pos : String} {af : Array Edge} {w' : World} {L : Array Bool} (ho : ops[i]? = some ⟨none, op, ty, pos, af, none⟩) (hr : Region.ready .any ops listed = [i]) (hL : listed.setIfInBounds i true = L)
    (hI : I listed w) (h : Run P l op ty w (.ok .skip w')) (k : JB P n ds ops I K f L l w') : JB P n ds ops I K (f + 1) listed l w := fun a ha => by
  subst hL
  refine ⟨hI, (fun h0 => absurd (hr.symm.trans h0) (by simp)), fun j hj => ?_⟩
  rw [hr] at hj
  obtain rfl : j = i := by simpa using hj
  exact ⟨_, ho, .inl ⟨by simp [Region.wanted], .inr (.inl ⟨w', h a ha.knows _ _ _ _, k _ ha⟩)⟩⟩
theorem JB.storeB (i : Nat) {T TB ty : TypeId} {pos : String} {af : Array Edge} {x y : Operand} {b j : Nat} {v : Value} {cs : List Value} {L : Array Bool} (ho : ops[i]? = some ⟨none, .store T x y, ty, pos, af, none⟩) (hr : Region.ready .any ops listed = [i]) (hL : listed.setIfInBounds i true = L) (hI : I listed w)
    (hz : (sizeOf T).run P w = .ok 1 w) (hx : Ev l x (.pointer (some ⟨b, j, none⟩))) (hy : Ev l y v) (hv : v.cells = #[v]) (h1 : one1 v = true) (hB : Blk w b TB cs) (hj : Nat.blt j cs.length = true)
    (k : ∀ w', Ch (One b) w w' → Blk w' b TB (cs.set j v) → JB P n ds ops I K f L l w') : JB P n ds ops I K (f + 1) listed l w := by
  obtain ⟨w', hr', hc, hB'⟩ := storeB_run (ty := ty) hz hx hy hv h1 hB hj
  exact JB.onlys i ho hr hL hI hr' (k w' hc hB')
/-- A literal of one element of one cell. -/
theorem JB.lit1 (i : Nat) {d : Nat} {T e ty : TypeId} {pos : String} {af : Array Edge} {o : Operand} {v z : Value} {L : Array Bool} (ho : ops[i]? = some ⟨some d, .buildSlice T 1 #[(0, o)], ty, pos, af, none⟩) (hr : Region.ready .any ops listed = [i]) (hL : listed.setIfInBounds i true = L) (hd : Nat.blt d n = true) (hI : I listed w)
    (hT : P.underlying T = some (.slice e)) (hz : (sizeOf e).run P w = .ok 1 w) (hzero : (zeroValue e).run P w = .ok z w) (hzc : z.cells.size = 1) (he : Ev l o v) (hv : v.cells = #[v])
    (k : ∀ b w', w.heap.size ≤ b → Ch No w w' → Blk w' b e [v] → JB P n ds ops I K f L ((d, .slice (some ⟨b, 0, none⟩) 1 1) :: l) w') : JB P n ds ops I K (f + 1) listed l w := by
  refine JB.only i (v := .slice (some ⟨w.heap.size, 0, none⟩) 1 1) (w' := w.alloc (.cells #[v] e)) ho hr hL hd hI (fun a ha _ _ _ _ => ?_) (k _ _ (Nat.le_refl _) (Ch.alloc w _) (Blk.new w e [v]))
  have hf := fill1 [v] [z.cells[0]!] 0 (by simp) (by simpa using hv)
  have hz0 : (Array.map (fun i => z.cells[i % z.cells.size]!) (Array.range 1)) = [z.cells[0]!].toArray := by
    apply Array.ext'
    simp [hzc, Nat.mod_one, List.range_succ]
  have hf' : Instr.fill (fun i => some (i, 1)) (Array.map (fun x => z.cells[x % z.cells.size]!) (Array.range 1)) [(0, v)] = some #[v] := by
    rw [hz0]; simpa [setMany] using hf
  simp only [execOp, Instr.buildSlice, List.map_toArray]
  simp [run_underlying hT, hz, hzero, newRow, he.eq ha, hf']
/-- '[]byte(s)': a block of its own. -/
theorem JB.strBytes (i : Nat) {d : Nat} {S T e ty : TypeId} {pos : String} {af : Array Edge} {x : Operand} {bs : List UInt8} {L : Array Bool} (ho : ops[i]? = some ⟨some d, .convert S T x, ty, pos, af, none⟩) (hr : Region.ready .any ops listed = [i]) (hL : listed.setIfInBounds i true = L) (hd : Nat.blt d n = true) (hI : I listed w)
    (hS : P.underlying S = some .string) (hT : P.underlying T = some (.slice e)) (he : P.underlying e = some (.int .u8)) (hx : Ev l x (.string (str bs))) (hlen : bs.length ≤ 4611686018427387904)
    (k : ∀ b cap w', w.heap.size ≤ b → Ch No w w' → SlB w' (.slice (some ⟨b, 0, none⟩) bs.length cap) bs → b < w'.heap.size → JB P n ds ops I K f L ((d, .slice (some ⟨b, 0, none⟩) bs.length cap) :: l) w') : JB P n ds ops I K (f + 1) listed l w := by
  have hge := grownCap_ge w (str bs).size 0 e
  have hle := grownCap_le_maxLen w (str bs).size 0 e (by rw [str_size]; unfold maxLen; omega)
  have hrun := run_bytes_of_string (P := P) w S T e (str bs) hS hT he
  obtain ⟨W, hW⟩ : ∃ W, W = w.drew.alloc (.cells (bytesRow (str bs) (grownCap w (str bs).size 0 e)) e ((bytesRow (str bs) (grownCap w (str bs).size 0 e)).size, (bytesRow (str bs) (grownCap w (str bs).size 0 e)).size + 1)) := ⟨_, rfl⟩
  rw [← hW] at hrun
  have hnew : W.heap[w.heap.size]? = some (.cells (bytesRow (str bs) (grownCap w (str bs).size 0 e)) e ((bytesRow (str bs) (grownCap w (str bs).size 0 e)).size, (bytesRow (str bs) (grownCap w (str bs).size 0 e)).size + 1)) := by
    rw [hW]
    show (w.heap.push _)[w.heap.size]? = _
    simp
  refine JB.only i (v := .slice (some ⟨w.heap.size, 0, none⟩) bs.length (grownCap w (str bs).size 0 e)) (w' := W) ho hr hL hd hI (fun a ha _ _ _ _ => by simp [execOp, hx.eq ha, hrun, str_size]) (k w.heap.size (grownCap w (str bs).size 0 e) W (Nat.le_refl _) ?_ (SlB.ofBs (fun j c hj => ?_) rfl (by rw [str_size] at hge; exact hge) (by unfold maxLen at hle; omega)) ?_)
  · rw [hW]; exact ⟨rfl, rfl, rfl, by simp, fun k hk _ => RowKit.Below.heap_alloc w.drew _ k hk⟩
  · rw [Nat.zero_add]
    have hjl : j < bs.length := (List.getElem?_eq_some_iff.1 hj).1
    have hrow : (bytesRow (str bs) (grownCap w (str bs).size 0 e))[j]? = some (bv c) := by
      unfold bytesRow
      rw [Array.getElem?_append_left (by simpa [str] using hjl)]
      simp [str, hj, bv]
    simp only [World.cell?, hnew]
    simpa using hrow
  · exact (Array.getElem?_eq_some_iff.1 hnew).1
theorem JB.append2 (i : Nat) {d : Nat} {T U e ty TB : TypeId} {pos : String} {af : Array Edge} {x y : Operand} {base nn size bytes b m c : Nat} {z v : Value} {xs news : List Value} {L : Array Bool} (ho : ops[i]? = some ⟨some d, .call ⟨.builtin .append, #[x, y], #[T, U]⟩, ty, pos, af, none⟩) (hr : Region.ready .any ops listed = [i]) (hL : listed.setIfInBounds i true = L) (hd : Nat.blt d n = true) (hI : I listed w)
    (hT : P.underlying T = some (.slice e)) (hU : P.underlying U = some (.slice e)) (hinfo : (P.info? e).map (fun i => (i.zero, i.size, i.bytes)) = some (some z, size, bytes)) (hzs : z.cells.size = size) (hby : 0 < bytes)
    (hx : Ev l x v) (hown : Owns w base e size v nn xs) (hy : Ev l y (.slice (some ⟨b, 0, none⟩) m c)) (hB : Blk w b TB news) (hl : news.length = m * size) (h1 : news.all one1 = true)
    (hbase : base ≤ w.heap.size) (hroom : (nn + m) * bytes ≤ 140737488355328)
    (k : ∀ v' w', Owns w' base e size v' (nn + m) (xs ++ news) → Ch (ownB v) w w' → Went w w' e v v' nn m size news → JB P n ds ops I K f L ((d, v') :: l) w') : JB P n ds ops I K (f + 1) listed l w := by
  have hS := Src.ofBlk (P := P) (c := c) hB hl
  obtain ⟨v', w', hr', ho', hch, hex⟩ := run_append2 (P := P) (w := w) (ty := ty) hT hU (.inr ⟨_, rfl⟩) hinfo hzs hby hS.1 hS.2 hl (fun u hu => List.all_eq_true.1 h1 u hu) hown hbase hroom
  exact JB.only i ho hr hL hd hI (fun a ha _ _ _ _ => by simp [execOp, resolve, invoke, builtin, hx.eq ha, hy.eq ha, hr']) (k v' w' ho' hch hex)
end
end Go.Proofs.Ytggngmmbpkoooaa.Eng
