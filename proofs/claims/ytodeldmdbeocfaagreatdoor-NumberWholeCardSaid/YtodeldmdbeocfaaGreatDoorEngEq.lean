/- The engine: structs compared. Over any program. -/
import Derived.Test.YtodeldmdbeocfaaGreatDoorEngSl
import Derived.Laws.StructEq
namespace Go.Proofs.YtodeldmdbeocfaaGreatDoor.Eng
open Go
set_option linter.unusedVariables false
set_option linter.unusedSimpArgs false
section
variable {P : Program} {w : World}
inductive EqF (P : Program) (w : World) (d : Nat) (xs ys : Array Value) : List Field → Bool → Prop
  | nil : EqF P w d xs ys [] true
  | cons {f : Field} {fs : List Field} {a b : Value} {r s : Bool} (hn : (f.name == "_") = false) (hag : (isAgg f.type).run P w = .ok false w) (ha : xs[f.offset]? = some a) (hb : ys[f.offset]? = some b)
      (he : (Op.equalIn d f.type a b).run P w = .ok r w) (k : EqF P w d xs ys fs s) : EqF P w d xs ys (f :: fs) (r && s)
theorem part1 {t : TypeId} {cs : Array Value} {o : Nat} {v : Value} (hag : (isAgg t).run P w = .ok false w) (h : cs[o]? = some v) : (part t cs o).run P w = .ok v w := by
  simp [part, hag, h]
theorem EqF.run {d : Nat} {xs ys : Array Value} {fs : List Field} {r : Bool} (h : EqF P w d xs ys fs r) : (Op.eqFields d xs ys fs).run P w = .ok r w := by
  induction h with
  | nil => simp [Op.eqFields]
  | @cons f fs a b r s hn hag ha hb he k ih =>
    have hn' : f.name ≠ "_" := by simpa using hn
    rw [Op.eqFields]
    simp only [if_pos hn', Sem.run_bind, part1 hag ha, part1 hag hb, he, Result.andThen_ok]
    cases r
    · simp
    · simpa using ih
theorem eqA_run {d : Nat} {xs ys : Array Value} {t : TypeId} {fs : Array Field} {r : Bool} (hu : P.underlying t = some (.struct fs)) (hp : P.stoodInHeld t = false) (h : EqF P w d xs ys fs.toList r) : (Op.equalIn (d + 1) t (.agg xs) (.agg ys)).run P w = .ok r w := by
  have hf : P.fieldsOf t = fs := by simp [Program.fieldsOf, hu]
  rw [run_equalIn_struct (P := P) w d t xs ys (by rw [hf]; exact hu) hp, hf]
  exact h.run
theorem eqI {d : Nat} {t : TypeId} {k k' : IntKind} {a b : Int} (h : P.underlying t = some (.int k')) : (Op.equalIn (d + 1) t (.int k a) (.int k b)).run P w = .ok (a == b) w := run_equalIn_int w d t k k' a b h
theorem eqB {d : Nat} {t : TypeId} {a b : Bool} (h : P.underlying t = some .bool) : (Op.equalIn (d + 1) t (.bool a) (.bool b)).run P w = .ok (a == b) w := run_equalIn_bool w d t a b h
variable {l : Fr} {ty : TypeId}
theorem Run.eqA {T U : TypeId} {x y : Operand} {xs ys : Array Value} {fs : Array Field} {r : Bool} (hu : P.underlying T = some (.struct fs)) (hp : P.stoodInHeld T = false) (hg : P.eqGuardType P.depth T = false) (hx : Ev l x (.agg xs)) (hy : Ev l y (.agg ys)) (h : EqF P w 9999 xs ys fs.toList r) :
    Run P l (.binOp .eql T x y U) ty w (.ok (.value (.bool r)) w) := fun a ha _ _ _ _ => by
  simp [execOp, hx.eq ha, hy.eq ha, run_eqGuard_agg w .eql T x y xs ys hg, run_eql_struct w T xs ys, eqA_run hu hp h]
theorem Run.neA {T U : TypeId} {x y : Operand} {xs ys : Array Value} {fs : Array Field} {r : Bool} (hu : P.underlying T = some (.struct fs)) (hp : P.stoodInHeld T = false) (hg : P.eqGuardType P.depth T = false) (hx : Ev l x (.agg xs)) (hy : Ev l y (.agg ys)) (h : EqF P w 9999 xs ys fs.toList r) :
    Run P l (.binOp .neq T x y U) ty w (.ok (.value (.bool (!r))) w) := fun a ha _ _ _ _ => by
  simp [execOp, hx.eq ha, hy.eq ha, run_eqGuard_agg w .neq T x y xs ys hg, run_neq_struct w T xs ys, eqA_run hu hp h]
/-- make of bytes. -/
theorem run_mkBL {T e : TypeId} {n c : Nat} (hn : n ≤ c) (hT : P.underlying T = some (.slice e)) (hinfo : (P.info? e).map (fun i => (i.zero, i.size, i.bytes)) = some (some (.int .u8 0), 1, 1)) (hc : c ≤ 281474976710656) :
    (Instr.makeSlice T (.int .i64 n) (.int .i64 c)).run P w = .ok (.slice (some ⟨w.heap.size, 0, none⟩) n c) (w.alloc (.cells (List.replicate c (.int .u8 0)).toArray e)) := by
  obtain ⟨i, hi, hz, hs, hb⟩ := info3 hinfo
  have hw : IntKind.i64.wrap (c : Int) = c := w_i64 _ (by omega) (by omega)
  have hw0 : IntKind.i64.wrap (n : Int) = n := w_i64 _ (by omega) (by omega)
  have hn0 : ¬ ((n : Int) < 0) := by omega
  have hnc : ¬ ((c : Int) < n) := by omega
  have h1 : ¬ ((c : Int) < 0) := by omega
  have h2 : ¬ ((281474976710656 : Int) < c) := by omega
  have harr : (Array.range c).map (fun _ => Value.int .u8 0) = (List.replicate c (Value.int .u8 0)).toArray := by
    apply Array.ext'
    simp [List.map_const']
  rcases Nat.eq_zero_or_pos c with rfl | hpos
  · obtain rfl : n = 0 := by omega
    have hz0 : IntKind.i64.wrap 0 = 0 := by decide
    simp [Instr.makeSlice, run_underlying hT, asInt, asIntOf, typeInfo, hi, hz, hs, hb, hz0, sizeOf, newRow, askRoom, roomBytes]
    rw [show Array.map (fun x : Nat => (default : Value)) (Array.range 0) = #[] from Array.ext' (by simp)]
  · have hc0 : c ≠ 0 := by omega
    have hm : (fun x : Nat => ([Value.int IntKind.u8 0][x % 1]?).getD default) = fun _ => Value.int IntKind.u8 0 := funext fun x => by rw [Nat.mod_one]; rfl
    simp [Instr.makeSlice, run_underlying hT, asInt, asIntOf, typeInfo, hi, hz, hs, hb, hw, hw0, h1, h2, hc0, hn0, hnc, sizeOf, zeroValue, newRow, askRoom, roomBytes, Value.cells]
    rw [hm, harr]
    simp
theorem run_mkB {T e : TypeId} {c : Nat} (hT : P.underlying T = some (.slice e)) (hinfo : (P.info? e).map (fun i => (i.zero, i.size, i.bytes)) = some (some (.int .u8 0), 1, 1)) (hc : c ≤ 281474976710656) :
    (Instr.makeSlice T (.int .i64 0) (.int .i64 c)).run P w = .ok (.slice (some ⟨w.heap.size, 0, none⟩) 0 c) (w.alloc (.cells (List.replicate c (.int .u8 0)).toArray e)) := run_mkBL (n := 0) (Nat.zero_le _) hT hinfo hc
end
section
variable {P : Program} {n : Nat} {ds : List Deferred} {ops : Array Oper} {I : World → Prop} {K : Act → World → Prop} {l : Fr} {w : World} {listed : Array Bool} {f : Nat}
theorem JA.lit0 (i : Nat) {d : Nat} {T e ty : TypeId} {pos : String} {af : Array Edge} {L : Array Bool} (ho : ops[i]? = some ⟨some d, .buildSlice T 0 #[], ty, pos, af, none⟩) (hr : Region.ready .any ops listed = [i]) (hL : listed.setIfInBounds i true = L) (hd : Nat.blt d n = true) (hI : I w)
    (hT : P.underlying T = some (.slice e)) {sz : Nat} (hz : (sizeOf e).run P w = .ok sz w)
    (k : ∀ b w', w.heap.size ≤ b → Ch No w w' → Blk w' b e [] → JA P n ds ops I K f L ((d, .slice (some ⟨b, 0, none⟩) 0 0) :: l) w') : JA P n ds ops I K (f + 1) listed l w :=
  JA.only i (w' := w.alloc (.cells #[] e)) ho hr hL hd hI (fun a ha _ _ _ _ => by simp [execOp, Instr.buildSlice, run_underlying hT, hz, newRow, Instr.fill]; congr 2; apply Array.ext'; simp) (k _ _ (Nat.le_refl _) (Ch.alloc w _) (Blk.new w e []))
theorem JA.appendS (i : Nat) {d : Nat} {T U e ty : TypeId} {pos : String} {af : Array Edge} {x y : Operand} {du : TypeDesc} {base nn m size bytes : Nat} {z v vy : Value} {xs news : List Value} {L : Array Bool}
    (ho : ops[i]? = some ⟨some d, .call ⟨.builtin .append, #[x, y], #[T, U]⟩, ty, pos, af, none⟩) (hr : Region.ready .any ops listed = [i]) (hL : listed.setIfInBounds i true = L) (hd : Nat.blt d n = true) (hI : I w)
    (hT : P.underlying T = some (.slice e)) (hU : P.underlying U = some du) (hdu : du = .string ∨ ∃ e', du = .slice e') (hinfo : (P.info? e).map (fun i => (i.zero, i.size, i.bytes)) = some (some z, size, bytes)) (hzs : z.cells.size = size) (hby : 0 < bytes)
    (hx : Ev l x v) (hown : Owns w base e size v nn xs) (hy : Ev l y vy) (hS : Src P w vy m size news) (hl : news.length = m * size) (h1 : ∀ u ∈ news, one1 u = true)
    (hbase : base ≤ w.heap.size) (hroom : (nn + m) * bytes ≤ 140737488355328)
    (k : ∀ v' w', Owns w' base e size v' (nn + m) (xs ++ news) → Ch (ownB v) w w' → JA P n ds ops I K f L ((d, v') :: l) w') : JA P n ds ops I K (f + 1) listed l w := by
  obtain ⟨v', w', hr', ho', hch⟩ := run_append (P := P) (w := w) (ty := ty) hT hU hdu hinfo hzs hby hS.1 hS.2 hl h1 hown hbase hroom
  exact JA.only i ho hr hL hd hI (fun a ha _ _ _ _ => by simp [execOp, resolve, invoke, builtin, hx.eq ha, hy.eq ha, hr']) (k v' w' ho' hch)
end
section
variable {P : Program} {n : Nat} {ds : List Deferred} {ops : Array Oper} {I : World → Prop} {K : Act → World → Prop} {l : Fr} {w : World} {listed : Array Bool} {f : Nat}
theorem JA.sliceS (i : Nat) {d : Nat} {T e ty : TypeId} {pos : String} {af : Array Edge} {x : Operand} {lo hi mx : Option Operand} {b o len cap sz L H M : Nat} {B : Array Bool} (hs : Region.noSelect ops = true) (ho : ops[i]? = some ⟨some d, .slice T x lo hi mx, ty, pos, af, none⟩)
    (hr : (Region.ready .any ops listed).contains i = true) (hf : Region.free .any ops listed i = true) (hB : listed.setIfInBounds i true = B) (hd : Nat.blt d n = true) (ht : P.underlying T = some (.slice e)) (hz : ∀ w, (sizeOf e).run P w = .ok sz w)
    (hx : Ev l x (.slice (some ⟨b, o, none⟩) len cap)) (hb : ∀ w a, Knows l a → (Instr.sliceBounds true len cap (lo.map a.eval) (hi.map a.eval) (mx.map a.eval)).run P w = .ok (L, H, M) w) (hLM : L ≤ M)
    (k : ∀ o', (L < M → o' = o + L * sz) → JA P n ds ops I K f B ((d, .slice (some ⟨b, o', none⟩) (H - L) (M - L)) :: l) w) : JA P n ds ops I K (f + 1) listed l w := by
  refine JA.take i (v := .slice (some ⟨b, if M = L then o else o + L * sz, none⟩) (H - L) (M - L)) hs ho hr hf hB hd (fun w' _ a ha _ _ _ _ => ?_) (k _ (fun h => by rw [if_neg (by omega)]))
  simp only [execOp, hx.eq ha, Instr.sliceAt, Sem.run_bind, run_underlying ht, Result.andThen_ok, Instr.slice, hb w' a ha, hz]
  by_cases hML : M = L
  · simp [hML]
  · simp [hML, add_none]
end
section
variable {P : Program} {n : Nat} {ds : List Deferred} {ops : Array Oper} {I : World → Prop} {K : Act → World → Prop} {l : Fr} {w : World} {listed : Array Bool} {f : Nat}
theorem JA.gsplit {dj : Nat} {want b : Bool} (hl : Look l dj (.bool b)) (hy : b = want → JA P n ds ops I K f listed l w) (hn : b = !want → JA P n ds ops I K f listed l w) : JA P n ds ops I K f listed l w := by
  cases b <;> cases want <;> first | exact hy rfl | exact hn rfl
theorem JA.onlycg (i : Nat) {d j dj : Nat} {op : Op} {ty : TypeId} {pos : String} {af : Array Edge} {fn : FuncId} {args : Array Value} {w' : World} {R : Ending → World → Prop} {b want : Bool} {oj : Oper} {L : Array Bool} (ho : ops[i]? = some ⟨some d, op, ty, pos, af, some (j, want)⟩) (hr : Region.ready .any ops listed = [i]) (hL : listed.setIfInBounds i true = L) (hd : Nat.blt d n = true)
    (hI : I w) (hoj : ops[j]? = some oj) (hdj : oj.dst = some dj) (hl : Look l dj (.bool b)) (hb : b = want) (h : Run P l op ty w (.ok (.enter fn args) w')) (hc : Calls P fn args w' R) (k : ∀ e w'', R e w'' → ∃ v, e = .returned v ∧ JA P n ds ops I K f L ((d, v) :: l) w'') : JA P n ds ops I K (f + 1) listed l w := fun a ha => by
  subst hL; subst hb
  refine ⟨hI, (fun h0 => absurd (hr.symm.trans h0) (by simp)), fun j' hj => ?_⟩
  rw [hr] at hj
  obtain rfl : j' = i := by simpa using hj
  exact ⟨_, ho, .inl ⟨by simp [Region.wanted, yielded_eq hoj hdj hl ha.knows], .inr (.inr ⟨fn, args, w', h a ha.knows _ _ _ _, hc.mono fun e w'' he => by obtain ⟨v, rfl, hk⟩ := k e w'' he; exact ⟨v, rfl, hk _ (ha.put hd)⟩⟩)⟩⟩
end
end Go.Proofs.YtodeldmdbeocfaaGreatDoor.Eng
