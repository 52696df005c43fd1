/- The engine, second part: what each kind of operation comes to; memory as facts on blocks. Over any program. -/
import Derived.Test.YtodeldmdbeocfaaGreatDoorEng
import Derived.IntWalk
namespace Go.Proofs.YtodeldmdbeocfaaGreatDoor.Eng
open Go
set_option linter.unusedVariables false
set_option linter.unusedSimpArgs false

/-! ## What becomes of memory -/
structure Ch (S : Nat → Prop) (w w' : World) : Prop where
  os : w'.os = w.os
  tape : w'.tape = w.tape
  output : w'.output = w.output
  size : w.heap.size ≤ w'.heap.size
  block : ∀ k, k < w.heap.size → ¬ S k → w'.heap[k]? = w.heap[k]?
abbrev No : Nat → Prop := fun _ => False
abbrev One (b : Nat) : Nat → Prop := fun k => k = b

theorem Ch.refl {S : Nat → Prop} (w : World) : Ch S w w := ⟨rfl, rfl, rfl, Nat.le_refl _, fun _ _ _ => rfl⟩
theorem Ch.trans {S : Nat → Prop} {a b c : World} (h : Ch S a b) (k : Ch S b c) : Ch S a c :=
  ⟨k.os.trans h.os, k.tape.trans h.tape, k.output.trans h.output, Nat.le_trans h.size k.size, fun i hi hs => (k.block i (Nat.lt_of_lt_of_le hi h.size) hs).trans (h.block i hi hs)⟩
/-- What is new behind a step, and what the step may turn, may be turned by the next. -/
theorem Ch.comp {S T : Nat → Prop} {a b c : World} (h : Ch S a b) (k : Ch T b c) (ht : ∀ i, T i → i < a.heap.size → S i) : Ch S a c :=
  ⟨k.os.trans h.os, k.tape.trans h.tape, k.output.trans h.output, Nat.le_trans h.size k.size, fun i hi hs => (k.block i (Nat.lt_of_lt_of_le hi h.size) (fun t => hs (ht i t hi))).trans (h.block i hi hs)⟩
theorem Ch.mono {S T : Nat → Prop} {a b : World} (h : Ch S a b) (ht : ∀ i, S i → T i) : Ch T a b :=
  ⟨h.os, h.tape, h.output, h.size, fun i hi hs => h.block i hi (fun s => hs (ht i s))⟩
theorem Ch.no {S : Nat → Prop} {a b c : World} (h : Ch S a b) (k : Ch No b c) : Ch S a c := h.comp k (fun _ t => t.elim)
theorem Ch.own {S : Nat → Prop} {a b c : World} {x : Nat} (h : Ch S a b) (k : Ch (One x) b c) (hx : a.heap.size ≤ x) : Ch S a c := h.comp k (fun i t hi => by
  have : i = x := t
  omega)
theorem Ch.drew {S : Nat → Prop} {a b : World} (h : Ch S a b) : Ch S a b.drew := ⟨h.os, h.tape, h.output, h.size, h.block⟩
theorem Ch.drew1 {S : Nat → Prop} (w : World) : Ch S w w.drew := (Ch.refl w).drew
theorem Ch.alloc {S : Nat → Prop} (w : World) (o : Obj) : Ch S w (w.alloc o) := ⟨rfl, rfl, rfl, by simp, fun k hk _ => RowKit.Below.heap_alloc _ _ _ hk⟩
theorem Ch.setCell (w : World) (p : Addr) (v : Value) : Ch (One p.block) w (w.setCell p v) := ⟨rfl, rfl, rfl, by simp [World.setCell], fun k _ hs => RowKit.Below.heap_setCell _ _ _ _ hs⟩
theorem Ch.below {w w' : World} (h : Ch No w w') : RowKit.Below w.heap.size w w' := ⟨h.os, h.tape, h.output, h.size, fun k hk => h.block k hk id⟩
theorem Ch.ofBelow {w w' : World} (h : RowKit.Below w.heap.size w w') : Ch No w w' := ⟨h.os, h.tape, h.output, h.size, fun k hk _ => h.block k hk⟩
theorem Ch.ofGrown {w w' : World} {row : Option Nat} (h : w.grownBy w' row) : Ch (fun k => row = some k) w w' := ⟨h.os, h.tape, h.output, h.size, fun k hk hs => h.block k hk (fun e => hs e.symm)⟩

def one1 : Value → Bool
  | .agg _ | .tuple _ => false
  | _ => true
/-- Block b is a row of these cells, none of them frozen. -/
def Blk (w : World) (b : Nat) (T : TypeId) (cs : List Value) : Prop := ∃ fz : Nat × Nat, w.heap[b]? = some (.cells cs.toArray T fz) ∧ ∀ j, j < cs.length → ¬ (fz.1 ≤ j ∧ j < fz.2)
theorem Blk.lt {w : World} {b : Nat} {T : TypeId} {cs : List Value} (h : Blk w b T cs) : b < w.heap.size := by
  obtain ⟨fz, h, _⟩ := h; exact (Array.getElem?_eq_some_iff.1 h).1
theorem Blk.cell {w : World} {b j : Nat} {T : TypeId} {cs : List Value} {v : Value} (h : Blk w b T cs) (hj : cs[j]? = some v) : w.cell? ⟨b, j, none⟩ = some v := by
  obtain ⟨fz, h, _⟩ := h; simp [World.cell?, h, hj]
theorem Blk.free {w : World} {b j : Nat} {T : TypeId} {cs : List Value} (h : Blk w b T cs) (hj : j < cs.length) : w.frozen? ⟨b, j, none⟩ = false := by
  obtain ⟨fz, h, hz⟩ := h
  have := hz j hj
  simp only [World.frozen?, h, Bool.and_eq_false_iff, decide_eq_false_iff_not]
  by_cases h1 : fz.1 ≤ j
  · exact .inr fun h2 => this ⟨h1, h2⟩
  · exact .inl h1
theorem Blk.ch {S : Nat → Prop} {w w' : World} {b : Nat} {T : TypeId} {cs : List Value} (h : Blk w b T cs) (hc : Ch S w w') (hb : ¬ S b) : Blk w' b T cs := by
  have hlt := h.lt
  obtain ⟨fz, h', hz⟩ := h
  exact ⟨fz, by rw [hc.block b hlt hb]; exact h', hz⟩
theorem Blk.no {w w' : World} {b : Nat} {T : TypeId} {cs : List Value} (h : Blk w b T cs) (hc : Ch No w w') : Blk w' b T cs := h.ch hc id
theorem Blk.drew {w : World} {b : Nat} {T : TypeId} {cs : List Value} (h : Blk w b T cs) : Blk w.drew b T cs := h
theorem Blk.new (w : World) (T : TypeId) (cs : List Value) : Blk (w.alloc (.cells cs.toArray T)) w.heap.size T cs := ⟨(0, 0), heap_alloc_new w _, fun j _ => by simp⟩
theorem Blk.set {w : World} {b j : Nat} {T : TypeId} {cs : List Value} (h : Blk w b T cs) (v : Value) : Blk (w.setCell ⟨b, j, none⟩ v) b T (cs.set j v) := by
  obtain ⟨fz, h, hz⟩ := h
  refine ⟨fz, ?_, fun k hk => hz k (by simpa using hk)⟩
  simp [World.setCell, Array.getElem?_modify, h]

/-! ## Numbers -/
theorem wrap_i64 {x : Int} (h : -9223372036854775808 ≤ x ∧ x ≤ 9223372036854775807) : IntKind.i64.wrap x = x := IntWalk.i64_in x h
theorem wrap_u64 {x : Int} (h : 0 ≤ x ∧ x ≤ 18446744073709551615) : IntKind.u64.wrap x = x := IntWalk.u64_in x h
theorem wrap_u32 {x : Int} (h : 0 ≤ x ∧ x ≤ 4294967295) : IntKind.u32.wrap x = x := IntWalk.u32_in x h
theorem wrap_i32 {x : Int} (h : -2147483648 ≤ x ∧ x ≤ 2147483647) : IntKind.i32.wrap x = x := IntWalk.i32_in x h
theorem wrap_u8 {x : Int} (h : 0 ≤ x ∧ x ≤ 255) : IntKind.u8.wrap x = x := IntWalk.u8_in x h
theorem wrap_u16 {x : Int} (h : 0 ≤ x ∧ x ≤ 65535) : IntKind.u16.wrap x = x := IntWalk.u16_in x h
theorem wrap_i64m (x : Int) : IntKind.i64.wrap x = (x + 9223372036854775808) % 18446744073709551616 - 9223372036854775808 := IntKind.wrap_i64 x
theorem wrap_u64m (x : Int) : IntKind.u64.wrap x = x % 18446744073709551616 := IntKind.wrap_u64 x
theorem wrap_u32m (x : Int) : IntKind.u32.wrap x = x % 4294967296 := IntKind.wrap_u32 x
theorem wrap_u8m (x : Int) : IntKind.u8.wrap x = x % 256 := IntKind.wrap_u8 x
theorem wrap_u16m (x : Int) : IntKind.u16.wrap x = x % 65536 := by simp [IntKind.wrap, IntKind.bits, IntKind.signed]

section ops
variable {P : Program} {l : Fr} {w : World} {ty : TypeId}

theorem Run.move {x : Operand} {v : Value} (hx : Ev l x v) : Run P l (.move x) ty w (.ok (.value v) w) := fun a ha _ _ _ _ => by simp [execOp, hx.eq ha]
theorem Run.assign {x : Operand} {v : Value} (hx : Ev l x v) : Run P l (.assign x) ty w (.ok (.value v) w) := fun a ha _ _ _ _ => by simp [execOp, hx.eq ha]
theorem Run.pickT {c x y : Operand} {b : Bool} {v : Value} (hc : Ev l c (.bool b)) (hb : b = true) (hx : Ev l x v) : Run P l (.pick c x y) ty w (.ok (.value v) w) := fun a ha _ _ _ _ => by simp [execOp, hc.eq ha, hx.eq ha, hb, asBool]
theorem Run.pickF {c x y : Operand} {b : Bool} {v : Value} (hc : Ev l c (.bool b)) (hb : b = false) (hy : Ev l y v) : Run P l (.pick c x y) ty w (.ok (.value v) w) := fun a ha _ _ _ _ => by simp [execOp, hc.eq ha, hy.eq ha, hb, asBool]
theorem Run.pickAnd {c x y : Operand} {b d : Bool} (hc : Ev l c (.bool b)) (hx : Ev l x (.bool d)) (hy : Ev l y (.bool false)) : Run P l (.pick c x y) ty w (.ok (.value (.bool (b && d))) w) := fun a ha _ _ _ _ => by
  cases b <;> simp [execOp, hc.eq ha, hx.eq ha, hy.eq ha, asBool]
theorem Run.pickOr {c x y : Operand} {b d : Bool} (hc : Ev l c (.bool b)) (hx : Ev l x (.bool true)) (hy : Ev l y (.bool d)) : Run P l (.pick c x y) ty w (.ok (.value (.bool (b || d))) w) := fun a ha _ _ _ _ => by
  cases b <;> simp [execOp, hc.eq ha, hx.eq ha, hy.eq ha, asBool]
theorem Run.nilPtr {x : Operand} {p : Addr} (hx : Ev l x (.pointer (some p))) : Run P l (.nilCheck x) ty w (.ok (.value (.pointer (some p))) w) := fun a ha _ _ _ _ => by simp [execOp, hx.eq ha]
theorem Run.nilIf {x : Operand} {t : TypeId} {v : Value} (hx : Ev l x (.iface t v)) : Run P l (.nilCheck x) ty w (.ok (.value (.iface t v)) w) := fun a ha _ _ _ _ => by simp [execOp, hx.eq ha]
theorem Run.nilFn {x : Operand} {f : FuncId} {fs cs : Array Value} (hx : Ev l x (.func (.func f) fs cs)) : Run P l (.nilCheck x) ty w (.ok (.value (.func (.func f) fs cs)) w) := fun a ha _ _ _ _ => by simp [execOp, hx.eq ha]

/-- Two operands, neither both nil interfaces nor both structs. -/
def plainEq : Value → Value → Bool
  | .nilIface, .nilIface => false
  | .agg _, .agg _ => false
  | _, _ => true
theorem eqGuard_plain {op : BinOp} {T : TypeId} {x y : Operand} {u v : Value} (h : plainEq u v = true) (w : World) : (eqGuard op T x y u v).run P w = .ok () w := by
  unfold eqGuard
  by_cases ho : op = .eql ∨ op = .neq
  · rcases ho with rfl | rfl <;> simp <;> cases u <;> cases v <;> first | rfl | simp [plainEq] at h
  · cases op <;> first | exact (ho (.inl rfl)).elim | exact (ho (.inr rfl)).elim | rfl
theorem Run.bin {op : BinOp} {T U : TypeId} {x y : Operand} {u v r : Value} (hx : Ev l x u) (hy : Ev l y v) (hp : plainEq u v = true) (h : (binOp op T u v).run P w = .ok r w) : Run P l (.binOp op T x y U) ty w (.ok (.value r) w) := fun a ha _ _ _ _ => by
  simp [execOp, hx.eq ha, hy.eq ha, eqGuard_plain hp, h]
theorem Run.arith {op : BinOp} {T U : TypeId} {x y : Operand} {k : IntKind} {i j c : Int} (hx : Ev l x (.int k i)) (hy : Ev l y (.int k j)) (h : (binOp op T (.int k i) (.int k j)).run P w = .ok (.int k c) w) : Run P l (.binOp op T x y U) ty w (.ok (.value (.int k c)) w) := Run.bin hx hy rfl h
theorem Run.add {T U : TypeId} {x y : Operand} {k : IntKind} {i j c : Int} (hx : Ev l x (.int k i)) (hy : Ev l y (.int k j)) (h : k.wrap (i + j) = c) : Run P l (.binOp .add T x y U) ty w (.ok (.value (.int k c)) w) := Run.bin hx hy rfl (by subst h; simp [binOp, Op.intArith])
theorem Run.sub {T U : TypeId} {x y : Operand} {k : IntKind} {i j c : Int} (hx : Ev l x (.int k i)) (hy : Ev l y (.int k j)) (h : k.wrap (i - j) = c) : Run P l (.binOp .sub T x y U) ty w (.ok (.value (.int k c)) w) := Run.bin hx hy rfl (by subst h; simp [binOp, Op.intArith])
theorem Run.mul {T U : TypeId} {x y : Operand} {k : IntKind} {i j c : Int} (hx : Ev l x (.int k i)) (hy : Ev l y (.int k j)) (h : k.wrap (i * j) = c) : Run P l (.binOp .mul T x y U) ty w (.ok (.value (.int k c)) w) := Run.bin hx hy rfl (by subst h; simp [binOp, Op.intArith])
theorem Run.quo {T U : TypeId} {x y : Operand} {k : IntKind} {i j c : Int} (hx : Ev l x (.int k i)) (hy : Ev l y (.int k j)) (h0 : j ≠ 0) (h : k.wrap (i.tdiv j) = c) : Run P l (.binOp .quo T x y U) ty w (.ok (.value (.int k c)) w) := Run.bin hx hy rfl (by subst h; simp [binOp, Op.intDiv, h0])
theorem Run.rem {T U : TypeId} {x y : Operand} {k : IntKind} {i j c : Int} (hx : Ev l x (.int k i)) (hy : Ev l y (.int k j)) (h0 : j ≠ 0) (h : i.tmod j = c) : Run P l (.binOp .rem T x y U) ty w (.ok (.value (.int k c)) w) := Run.bin hx hy rfl (by subst h; simp [binOp, Op.intDiv, h0])
theorem Run.lss {T U : TypeId} {x y : Operand} {k : IntKind} {i j : Int} (hx : Ev l x (.int k i)) (hy : Ev l y (.int k j)) : Run P l (.binOp .lss T x y U) ty w (.ok (.value (.bool (decide (i < j)))) w) := Run.bin hx hy rfl (by simp [binOp, Op.intCmp])
theorem Run.leq {T U : TypeId} {x y : Operand} {k : IntKind} {i j : Int} (hx : Ev l x (.int k i)) (hy : Ev l y (.int k j)) : Run P l (.binOp .leq T x y U) ty w (.ok (.value (.bool (decide (i ≤ j)))) w) := Run.bin hx hy rfl (by simp [binOp, Op.intCmp])
theorem Run.gtr {T U : TypeId} {x y : Operand} {k : IntKind} {i j : Int} (hx : Ev l x (.int k i)) (hy : Ev l y (.int k j)) : Run P l (.binOp .gtr T x y U) ty w (.ok (.value (.bool (decide (j < i)))) w) := Run.bin hx hy rfl (by simp [binOp, Op.intCmp])
theorem Run.geq {T U : TypeId} {x y : Operand} {k : IntKind} {i j : Int} (hx : Ev l x (.int k i)) (hy : Ev l y (.int k j)) : Run P l (.binOp .geq T x y U) ty w (.ok (.value (.bool (decide (j ≤ i)))) w) := Run.bin hx hy rfl (by simp [binOp, Op.intCmp])
theorem Run.eql {T U : TypeId} {x y : Operand} {k : IntKind} {i j : Int} (hx : Ev l x (.int k i)) (hy : Ev l y (.int k j)) : Run P l (.binOp .eql T x y U) ty w (.ok (.value (.bool (i == j))) w) := Run.bin hx hy rfl (by simp [binOp, Op.intCmp])
theorem Run.neq {T U : TypeId} {x y : Operand} {k : IntKind} {i j : Int} (hx : Ev l x (.int k i)) (hy : Ev l y (.int k j)) : Run P l (.binOp .neq T x y U) ty w (.ok (.value (.bool (i != j))) w) := Run.bin hx hy rfl (by simp [binOp, Op.intCmp])
theorem Run.shl {T U : TypeId} {x y : Operand} {k k' : IntKind} {i j m c : Int} (hx : Ev l x (.int k i)) (hy : Ev l y (.int k' j)) (h0 : 0 ≤ j) (hm : (2 : Int) ^ (min j.toNat k.bits) = m) (h : k.wrap (i * m) = c) : Run P l (.binOp .shl T x y U) ty w (.ok (.value (.int k c)) w) :=
  Run.bin hx hy rfl (by subst h; subst hm; simp [binOp, Op.shift, show ¬ j < 0 from by omega])
theorem Run.shr {T U : TypeId} {x y : Operand} {k k' : IntKind} {i j m : Int} (hx : Ev l x (.int k i)) (hy : Ev l y (.int k' j)) (h0 : 0 ≤ j) (hm : (2 : Int) ^ (min j.toNat k.bits) = m) : Run P l (.binOp .shr T x y U) ty w (.ok (.value (.int k (i / m))) w) :=
  Run.bin hx hy rfl (by
    subst hm
    have h2 : (0 : Int) ≤ 2 ^ (min j.toNat k.bits) := Int.le_of_lt (Int.pow_pos (by decide))
    simp [binOp, Op.shift, show ¬ j < 0 from by omega, Int.fdiv_eq_ediv_of_nonneg _ h2])
theorem Run.shlv {T U : TypeId} {x y : Operand} {k k' : IntKind} {i j c : Int} (hx : Ev l x (.int k i)) (hy : Ev l y (.int k' j)) (h0 : 0 ≤ j) (h : k.wrap (i * (2 : Int) ^ (min j.toNat k.bits)) = c) : Run P l (.binOp .shl T x y U) ty w (.ok (.value (.int k c)) w) := Run.shl hx hy h0 rfl h
theorem Run.shrv {T U : TypeId} {x y : Operand} {k k' : IntKind} {i j c : Int} (hx : Ev l x (.int k i)) (hy : Ev l y (.int k' j)) (h0 : 0 ≤ j) (h : i / (2 : Int) ^ (min j.toNat k.bits) = c) : Run P l (.binOp .shr T x y U) ty w (.ok (.value (.int k c)) w) := h ▸ Run.shr hx hy h0 rfl
theorem Run.bitop {op : BinOp} {T U : TypeId} {x y : Operand} {k : IntKind} {i j c : Int} (hx : Ev l x (.int k i)) (hy : Ev l y (.int k j)) (ho : op = .and ∨ op = .or ∨ op = .xor ∨ op = .andNot) (h : bits op k i j = c) : Run P l (.binOp op T x y U) ty w (.ok (.value (.int k c)) w) :=
  Run.bin hx hy rfl (by subst h; rcases ho with rfl | rfl | rfl | rfl <;> simp [binOp, Op.intBits, bits])
theorem Run.not {T : TypeId} {x : Operand} {b : Bool} (hx : Ev l x (.bool b)) : Run P l (.unOp .not T x) ty w (.ok (.value (.bool (!b))) w) := fun a ha _ _ _ _ => by simp [execOp, hx.eq ha, Op.unary]
theorem Run.neg {T : TypeId} {x : Operand} {k : IntKind} {i c : Int} (hx : Ev l x (.int k i)) (h : k.wrap (0 - i) = c) : Run P l (.unOp .neg T x) ty w (.ok (.value (.int k c)) w) := fun a ha _ _ _ _ => by subst h; simp [execOp, hx.eq ha, Op.unary, Op.intArith]
theorem Run.eqb {T U : TypeId} {x y : Operand} {b c : Bool} (ht : P.underlying T = some .bool) (hx : Ev l x (.bool b)) (hy : Ev l y (.bool c)) : Run P l (.binOp .eql T x y U) ty w (.ok (.value (.bool (b == c))) w) := Run.bin hx hy rfl (run_eql_bool w T b c ht)
theorem Run.neb {T U : TypeId} {x y : Operand} {b c : Bool} (ht : P.underlying T = some .bool) (hx : Ev l x (.bool b)) (hy : Ev l y (.bool c)) : Run P l (.binOp .neq T x y U) ty w (.ok (.value (.bool (!(b == c)))) w) := Run.bin hx hy rfl (run_neq_bool w T b c ht)
theorem Run.conv {s d : TypeId} {x : Operand} {k k' : IntKind} {i c : Int} {ds : TypeDesc} (hs : P.underlying s = some ds) (hd : P.underlying d = some (.int k)) (hx : Ev l x (.int k' i)) (h : k.wrap i = c) : Run P l (.convert s d x) ty w (.ok (.value (.int k c)) w) := fun a ha _ _ _ _ => by
  subst h; simp [execOp, hx.eq ha, convert, run_underlying hs, run_underlying hd, Conv.intToInt]
theorem Run.convStr {s d : TypeId} {x : Operand} {t : ByteArray} (hs : P.underlying s = some .string) (hd : P.underlying d = some .string) (hx : Ev l x (.string t)) : Run P l (.convert s d x) ty w (.ok (.value (.string t)) w) := fun a ha _ _ _ _ => by
  simp [execOp, hx.eq ha, convert, run_underlying hs, run_underlying hd]
theorem Run.iface {T : TypeId} {x : Operand} {v : Value} (h : (Instr.makeInterface T v).run P w = .ok (.iface T v) w) (hx : Ev l x v) : Run P l (.makeInterface T x) ty w (.ok (.value (.iface T v)) w) := fun a ha _ _ _ _ => by simp [execOp, hx.eq ha, h]
theorem Run.extract {x : Operand} {i : Nat} {vs : Array Value} {v : Value} (hx : Ev l x (.tuple vs)) (h : vs[i]? = some v) : Run P l (.extract x i) ty w (.ok (.value v) w) := fun a ha _ _ _ _ => by simp [execOp, hx.eq ha, Instr.extract, h]
theorem Run.fieldAgg {T : TypeId} {x : Operand} {f : Nat} {cs : Array Value} {v : Value} (hx : Ev l x (.agg cs)) (h : (Instr.field T (.agg cs) f).run P w = .ok v w) : Run P l (.field T x f) ty w (.ok (.value v) w) := fun a ha _ _ _ _ => by simp [execOp, hx.eq ha, h]

theorem Run.len {T : TypeId} {x : Operand} {a : Option Addr} {n c : Nat} {e : TypeId} (ht : P.underlying T = some (.slice e)) (hx : Ev l x (.slice a n c)) : Run P l (.call ⟨.builtin .len, #[x], #[T]⟩) ty w (.ok (.value (.int .i64 n)) w) := fun b hb _ _ _ _ => by
  simp [execOp, resolve, invoke, builtin, Builtin.len_, hx.eq hb, run_underlying ht, goInt]
theorem Run.lenS {T : TypeId} {x : Operand} {s : ByteArray} (ht : P.underlying T = some .string) (hx : Ev l x (.string s)) : Run P l (.call ⟨.builtin .len, #[x], #[T]⟩) ty w (.ok (.value (.int .i64 s.size)) w) := fun b hb _ _ _ _ => by
  simp [execOp, resolve, invoke, builtin, Builtin.len_, hx.eq hb, run_underlying ht, goInt]
inductive Evs (l : Fr) : List Operand → List Value → Prop
  | nil : Evs l [] []
  | cons {x : Operand} {v : Value} {xs : List Operand} {vs : List Value} (h : Ev l x v) (k : Evs l xs vs) : Evs l (x :: xs) (v :: vs)
theorem Evs.eq {xs : List Operand} {vs : List Value} {a : Act} (h : Evs l xs vs) (ha : Knows l a) : xs.map a.eval = vs := by
  induction h with
  | nil => rfl
  | cons h k ih => simp [h.eq ha, ih]
theorem Run.call {f : FuncId} {xs : List Operand} {vs : List Value} {ts : Array TypeId} (hc : ∀ args w, (callFunc f args).run P w = .ok (.enter f args) w) (h : Evs l xs vs) : Run P l (.call ⟨.value (.func f), xs.toArray, ts⟩) ty w (.ok (.enter f vs.toArray) w) := fun a ha _ _ _ _ => by
  have h1 : a.eval (.func f) = .func (.func f) #[] #[] := rfl
  simp [execOp, resolve, Deferred.ofValue, invoke, h1, h.eq ha, hc]
/-- A call of a function value: what it holds captured stands behind the arguments. -/
theorem Run.callv {x : Operand} {f : FuncId} {fs cs : List Value} {xs : List Operand} {vs : List Value} {ts : Array TypeId} (hc : ∀ args w, (callFunc f args).run P w = .ok (.enter f args) w) (hx : Ev l x (.func (.func f) fs.toArray cs.toArray)) (h : Evs l xs vs) :
    Run P l (.call ⟨.value x, xs.toArray, ts⟩) ty w (.ok (.enter f (fs ++ vs ++ cs).toArray) w) := fun a ha _ _ _ _ => by
  simp [execOp, resolve, Deferred.ofValue, invoke, hx.eq ha, h.eq ha, hc]

/-! ### Memory -/
theorem Run.fieldAddr {s : TypeId} {x : Operand} {f b o off ft foff : Nat} {fs : Array Field} {sz : Nat} (hu : P.underlying s = some (.struct fs)) (hf : (fs[f]?).map (fun fd => (fd.type, fd.offset)) = some (ft, foff)) (hz : (sizeOf ft).run P w = .ok sz w) (h0 : Nat.beq sz 0 = false) (he : o + foff = off) (hx : Ev l x (.pointer (some ⟨b, o, none⟩))) :
    Run P l (.fieldAddr s x f) ty w (.ok (.value (.pointer (some ⟨b, off, none⟩))) w) := fun a ha _ _ _ _ => by
  have h0' : sz ≠ 0 := by intro e; subst e; simp at h0
  obtain ⟨fd, hfd, h1, h2⟩ : ∃ fd, fs[f]? = some fd ∧ fd.type = ft ∧ fd.offset = foff := by
    cases h : fs[f]? with
    | none => rw [h] at hf; cases hf
    | some fd => rw [h] at hf; simp at hf; exact ⟨fd, rfl, hf.1, hf.2⟩
  subst he; subst h1; subst h2
  have hadd : (⟨b, o, none⟩ : Addr).add fd.offset = ⟨b, o + fd.offset, none⟩ := by unfold Addr.add; split <;> simp_all
  simp [execOp, hx.eq ha, Instr.fieldAt, run_underlying hu, hfd, Instr.sureAddr, fieldPlace, hz, h0', hadd]
theorem add_none (b o k : Nat) : (⟨b, o, none⟩ : Addr).add k = ⟨b, o + k, none⟩ := by unfold Addr.add; split <;> simp_all
theorem Run.indexAddr {T e : TypeId} {x i : Operand} {b o m len cap sz off : Nat} {k : IntKind} {n : Int} (ht : P.underlying T = some (.slice e)) (hz : (sizeOf e).run P w = .ok sz w) (hx : Ev l x (.slice (some ⟨b, o, none⟩) len cap)) (hi : Ev l i (.int k n)) (hm : n = (m : Int)) (hl : m < len) (he : o + m * sz = off) :
    Run P l (.indexAddr T x i) ty w (.ok (.value (.pointer (some ⟨b, off, none⟩))) w) := fun a ha _ _ _ _ => by
  subst he; subst hm
  have h1 : (m : Int) < (len : Int) := by omega
  simp [execOp, hx.eq ha, hi.eq ha, Instr.indexAt, asIntOf, run_underlying ht, h1, hz, add_none]
  intro h; omega
theorem Run.indexAddrA {T e : TypeId} {x i : Operand} {b o m len sz off : Nat} {k : IntKind} {n : Int} (ht : P.underlying T = some (.array len e)) (hz : (sizeOf e).run P w = .ok sz w) (hx : Ev l x (.pointer (some ⟨b, o, none⟩))) (hi : Ev l i (.int k n)) (hm : n = (m : Int)) (hl : m < len) (he : o + m * sz = off) :
    Run P l (.indexAddr T x i) ty w (.ok (.value (.pointer (some ⟨b, off, none⟩))) w) := fun a ha _ _ _ _ => by
  subst he; subst hm
  have h1 : (m : Int) < (len : Int) := by omega
  simp [execOp, hx.eq ha, hi.eq ha, Instr.indexAt, asIntOf, run_underlying ht, h1, hz, add_none, Instr.sureAddr]
  intro h; omega
theorem Run.indexS {T : TypeId} {x i : Operand} {m : Nat} {s : ByteArray} {k : IntKind} {n : Int} {c : UInt8} (ht : P.underlying T = some .string) (hx : Ev l x (.string s)) (hi : Ev l i (.int k n)) (hm : n = (m : Int)) (hc : s[m]? = some c) :
    Run P l (.index T x i) ty w (.ok (.value (.int .u8 (c.toNat : Int))) w) := fun a ha _ _ _ _ => by
  subst hm
  simp [execOp, hx.eq ha, hi.eq ha, Instr.index, asIntOf, run_underlying ht, hc]
theorem Run.load {T : TypeId} {x : Operand} {p : Addr} {v : Value} (hag : (isAgg T).run P w = .ok false w) (hx : Ev l x (.pointer (some p))) (hc : w.cell? p = some v) : Run P l (.load T x) ty w (.ok (.value v) w) := fun a ha _ _ _ _ => by
  simp [execOp, hx.eq ha, Instr.loadAt, Instr.sureAddr, loadVar, hag, Go.load, Sem.run, hc]
theorem Run.loadB {T TB : TypeId} {x : Operand} {b j : Nat} {v : Value} {cs : List Value} (hag : (isAgg T).run P w = .ok false w) (hx : Ev l x (.pointer (some ⟨b, j, none⟩))) (hB : Blk w b TB cs) (hj : cs[j]? = some v) : Run P l (.load T x) ty w (.ok (.value v) w) :=
  Run.load hag hx (hB.cell hj)
theorem run_loadCells {b : Nat} {T : TypeId} {cs : List Value} (hB : Blk w b T cs) : ∀ (m i j : Nat) (acc : Array Value), j + i + m ≤ cs.length → (loadCellsFrom ⟨b, j, none⟩ i m acc).run P w = .ok (acc ++ ((cs.drop (j + i)).take m).toArray) w
  | 0, i, j, acc, h => by simp [loadCellsFrom]
  | m + 1, i, j, acc, h => by
    have hj : cs[j + i]? = some (cs[j + i]'(by omega)) := List.getElem?_eq_getElem (by omega)
    have ih := run_loadCells hB m (i + 1) j (acc.push (cs[j + i]'(by omega))) (by omega)
    simp only [loadCellsFrom, add_none, Sem.run_bind, Go.load, Sem.run, hB.cell hj, Result.andThen_ok, ih]
    congr 1
    rw [List.drop_eq_getElem_cons (by omega : j + i < cs.length)]
    simp [Nat.add_assoc]
theorem run_loadVar {T TB : TypeId} {b j sz : Nat} {cs : List Value} (hag : (isAgg T).run P w = .ok true w) (hz : (sizeOf T).run P w = .ok sz w) (hB : Blk w b TB cs) (hl : j + sz ≤ cs.length) : (loadVar T ⟨b, j, none⟩).run P w = .ok (.agg ((cs.drop j).take sz).toArray) w := by
  have := run_loadCells (P := P) hB sz 0 j #[] (by omega)
  simp only [Nat.add_zero, Array.empty_append] at this
  simp [loadVar, hag, hz, loadCells, this]
theorem Run.loadA {T TB : TypeId} {x : Operand} {b j sz : Nat} {cs : List Value} (hag : (isAgg T).run P w = .ok true w) (hz : (sizeOf T).run P w = .ok sz w) (hx : Ev l x (.pointer (some ⟨b, j, none⟩))) (hB : Blk w b TB cs) (hl : Nat.ble (j + sz) cs.length = true) : Run P l (.load T x) ty w (.ok (.value (.agg ((cs.drop j).take sz).toArray)) w) := fun a ha _ _ _ _ => by
  simp [execOp, hx.eq ha, Instr.loadAt, Instr.sureAddr, run_loadVar hag hz hB (Nat.le_of_ble_eq_true hl)]

end ops

section steps0
variable {P : Program} {n : Nat} {ds : List Deferred} {Q : Exit → Act → World → Prop} {l : Fr} {w : World}
theorem JC.drawnc {id m : Nat} {o : List Oper} (hm : P.follows .mixedOrders = true) (hB : Region.lexTailB .any o.toArray m = true)
    (k : ∀ w', Ch No w w' → JS P n ds o.toArray (fun a => wpList P o.toArray Q (o.drop m) a w') (o.take m) l w') : JC P n ds (.region id o.toArray true) Q l w := JC.drawn hm hB (k w.drew (Ch.drew1 w))
theorem JC.stillc {id : Nat} {o : List Oper} (hm : P.follows .mixedOrders = true) (hB : Region.lexB .any o.toArray = true)
    (k : ∀ w', Ch No w w' → JS P n ds o.toArray (fun a => Q .normal a w') o l w') : JC P n ds (.region id o.toArray true) Q l w := JC.still hm hB (k w.drew (Ch.drew1 w))
end steps0
section steps
variable {P : Program} {n : Nat} {ds : List Deferred} {ops : Array Oper} {Q : Exit → Act → World → Prop} {l : Fr} {w : World} {rest : List Oper}

theorem JL.alloc {d : Nat} {T ty : TypeId} {pos : String} {af : Array Edge} {z : Value} (hd : Nat.blt d n = true) (hz : (zeroValue T).run P w = .ok z w)
    (k : ∀ b w', w.heap.size ≤ b → Ch No w w' → Blk w' b T z.cells.toList → JL P n ds ops Q rest ((d, .pointer (some ⟨b, 0, none⟩)) :: l) w') : JL P n ds ops Q (⟨some d, .alloc T, ty, pos, af, none⟩ :: rest) l w :=
  JL.val hd (w' := w.alloc (.cells z.cells T)) (fun a ha _ _ _ _ => by simp [execOp, Instr.alloc, hz, newVar, newRow, newObj, Sem.run])
    (k _ _ (Nat.le_refl _) (Ch.alloc w _) (by simpa using Blk.new w T z.cells.toList))
theorem JL.box {d : Nat} {T ty : TypeId} {pos : String} {af : Array Edge} {x : Operand} {v : Value} (hd : Nat.blt d n = true) (hx : Ev l x v)
    (k : ∀ b w', w.heap.size ≤ b → Ch No w w' → Blk w' b T v.cells.toList → JL P n ds ops Q rest ((d, .pointer (some ⟨b, 0, none⟩)) :: l) w') : JL P n ds ops Q (⟨some d, .box T x, ty, pos, af, none⟩ :: rest) l w :=
  JL.val hd (w' := w.alloc (.cells v.cells T)) (fun a ha _ _ _ _ => by simp [execOp, Instr.box, hx.eq ha, newVar, newRow, newObj, Sem.run])
    (k _ _ (Nat.le_refl _) (Ch.alloc w _) (by simpa using Blk.new w T v.cells.toList))

theorem run_store1 {T : TypeId} {p : Addr} {v v0 : Value} (hz : (sizeOf T).run P w = .ok 1 w) (hv : v.cells = #[v]) (h1 : one1 v = true) (hc : w.cell? p = some v0) (hf : w.frozen? p = false) : (storeVar T p v).run P w = .ok () (w.setCell p v) := by
  have hadd : p.add 0 = p := by simp [Addr.add]
  have hst : (Go.store p v).run P w = .ok () (w.setCell p v) := by
    cases v <;> simp_all [Go.store, Sem.run, one1]
  simp [storeVar, hz, hv, storeCells, hadd, hst]
theorem JL.store {T ty : TypeId} {pos : String} {af : Array Edge} {x y : Operand} {p : Addr} {v v0 : Value} (hz : (sizeOf T).run P w = .ok 1 w) (hx : Ev l x (.pointer (some p))) (hy : Ev l y v) (hv : v.cells = #[v]) (h1 : one1 v = true) (hc : w.cell? p = some v0) (hf : w.frozen? p = false)
    (k : JL P n ds ops Q rest l (w.setCell p v)) : JL P n ds ops Q (⟨none, .store T x y, ty, pos, af, none⟩ :: rest) l w :=
  JL.skip (fun a ha _ _ _ _ => by simp [execOp, hx.eq ha, hy.eq ha, Instr.storeAt, Instr.sureAddr, run_store1 hz hv h1 hc hf]) k
theorem JL.storeB {T TB ty : TypeId} {pos : String} {af : Array Edge} {x y : Operand} {b j : Nat} {v : Value} {cs : List Value} (hz : (sizeOf T).run P w = .ok 1 w) (hx : Ev l x (.pointer (some ⟨b, j, none⟩))) (hy : Ev l y v) (hv : v.cells = #[v]) (h1 : one1 v = true) (hB : Blk w b TB cs) (hj : Nat.blt j cs.length = true)
    (k : ∀ w', Ch (One b) w w' → Blk w' b TB (cs.set j v) → JL P n ds ops Q rest l w') : JL P n ds ops Q (⟨none, .store T x y, ty, pos, af, none⟩ :: rest) l w := by
  have hjl : j < cs.length := by simpa [Nat.blt_eq] using hj
  exact JL.store hz hx hy hv h1 (hB.cell (List.getElem?_eq_getElem hjl)) (hB.free hjl) (k _ (Ch.setCell w ⟨b, j, none⟩ v) (hB.set v))

/-- cells from place j on are these. -/
def setMany (cs : List Value) (j : Nat) : List Value → List Value
  | [] => cs
  | v :: r => setMany (cs.set j v) (j + 1) r
theorem run_storeCells {b : Nat} {TB : TypeId} : ∀ (vs : List Value) (cs : List Value) (i j : Nat) (w : World), Blk w b TB cs → j + i + vs.length ≤ cs.length → (∀ v ∈ vs, one1 v = true) →
    ∃ w', (storeCells ⟨b, j, none⟩ vs i).run P w = .ok () w' ∧ Ch (One b) w w' ∧ Blk w' b TB (setMany cs (j + i) vs)
  | [], cs, i, j, w, hB, _, _ => ⟨w, by simp [storeCells], Ch.refl w, hB⟩
  | v :: r, cs, i, j, w, hB, hl, h1 => by
    have hjl : j + i < cs.length := by simp at hl; omega
    have hst : (Go.store ⟨b, j + i, none⟩ v).run P w = .ok () (w.setCell ⟨b, j + i, none⟩ v) := by
      have hc := hB.cell (List.getElem?_eq_getElem hjl)
      have hf := hB.free hjl
      have hv := h1 v (by simp)
      cases v <;> simp_all [Go.store, Sem.run, one1]
    obtain ⟨w', hr, hch, hb⟩ := run_storeCells r (cs.set (j + i) v) (i + 1) j _ (hB.set v) (by simp at hl ⊢; omega) (fun u hu => h1 u (by simp [hu]))
    exact ⟨w', by simp [storeCells, add_none, hst, hr], (Ch.setCell w ⟨b, j + i, none⟩ v).trans hch, hb⟩
theorem JL.storeA {T TB ty : TypeId} {pos : String} {af : Array Edge} {x y : Operand} {b j sz : Nat} {vs : List Value} {cs : List Value} (hz : (sizeOf T).run P w = .ok sz w) (hx : Ev l x (.pointer (some ⟨b, j, none⟩))) (hy : Ev l y (.agg vs.toArray)) (hsz : vs.length = sz) (h1 : vs.all one1 = true) (hB : Blk w b TB cs) (hj : Nat.ble (j + vs.length) cs.length = true)
    (k : ∀ w', Ch (One b) w w' → Blk w' b TB (setMany cs j vs) → JL P n ds ops Q rest l w') : JL P n ds ops Q (⟨none, .store T x y, ty, pos, af, none⟩ :: rest) l w := by
  have hjl := Nat.le_of_ble_eq_true hj
  obtain ⟨w', hr, hch, hb⟩ := run_storeCells (P := P) vs cs 0 j w hB (by omega) (fun v hv => List.all_eq_true.1 h1 v hv)
  refine JL.skip (w' := w') (fun a ha _ _ _ _ => ?_) (k w' hch hb)
  simp [execOp, hx.eq ha, hy.eq ha, Instr.storeAt, Instr.sureAddr, storeVar, hz, Value.cells, hsz, hr]

/-- x[low:high:max] of a slice. Where nothing is left to read the place is of no weight. -/
theorem JL.sliceS {d : Nat} {T e ty : TypeId} {pos : String} {af : Array Edge} {x : Operand} {lo hi mx : Option Operand} {b o len cap sz L H M : Nat} (hd : Nat.blt d n = true) (ht : P.underlying T = some (.slice e)) (hz : (sizeOf e).run P w = .ok sz w)
    (hx : Ev l x (.slice (some ⟨b, o, none⟩) len cap)) (hb : ∀ a, Knows l a → (Instr.sliceBounds true len cap (lo.map a.eval) (hi.map a.eval) (mx.map a.eval)).run P w = .ok (L, H, M) w) (hLM : L ≤ M)
    (k : ∀ o', (L < M → o' = o + L * sz) → JL P n ds ops Q rest ((d, .slice (some ⟨b, o', none⟩) (H - L) (M - L)) :: l) w) : JL P n ds ops Q (⟨some d, .slice T x lo hi mx, ty, pos, af, none⟩ :: rest) l w := by
  refine JL.val hd (w' := w) (v := .slice (some ⟨b, if M = L then o else o + L * sz, none⟩) (H - L) (M - L)) (fun a ha _ _ _ _ => ?_) (k _ (fun h => by rw [if_neg (by omega)]))
  simp only [execOp, hx.eq ha, Instr.sliceAt, Sem.run_bind, run_underlying ht, Result.andThen_ok, Instr.slice, hb a ha, hz]
  by_cases hML : M = L
  · simp [hML]
  · simp [hML, add_none]
end steps
/-- The bounds of a slicing: what stands for low, high, max. -/
theorem bounds_lh {P : Program} {w : World} {len cap : Nat} {k k' : IntKind} {i j : Int} {L H : Nat} (hL : i = (L : Int)) (hH : j = (H : Int)) (h1 : L ≤ H) (h2 : H ≤ cap) : (Instr.sliceBounds true len cap (some (.int k i)) (some (.int k' j)) none).run P w = .ok (L, H, cap) w := by
  subst hL; subst hH
  simp [Instr.sliceBounds, Instr.sliceBound, asIntOf, h1, h2]
theorem bounds_l {P : Program} {w : World} {len cap : Nat} {k : IntKind} {i : Int} {L : Nat} (hL : i = (L : Int)) (h1 : L ≤ len) : (Instr.sliceBounds true len cap (some (.int k i)) none none).run P w = .ok (L, len, cap) w := by
  subst hL
  simp [Instr.sliceBounds, Instr.sliceBound, asIntOf, h1]
theorem bounds_h {P : Program} {w : World} {len cap : Nat} {k : IntKind} {j : Int} {H : Nat} (hH : j = (H : Int)) (h2 : H ≤ cap) : (Instr.sliceBounds true len cap none (some (.int k j)) none).run P w = .ok (0, H, cap) w := by
  subst hH
  simp [Instr.sliceBounds, Instr.sliceBound, asIntOf, h2]
theorem bounds_hm {P : Program} {w : World} {len cap : Nat} {k k' : IntKind} {j m : Int} {H M : Nat} (hH : j = (H : Int)) (hM : m = (M : Int)) (h1 : H ≤ M) (h2 : M ≤ cap) : (Instr.sliceBounds true len cap none (some (.int k j)) (some (.int k' m))).run P w = .ok (0, H, M) w := by
  subst hH; subst hM
  simp [Instr.sliceBounds, Instr.sliceBound, asIntOf, h1, h2]
theorem bounds_lhm {P : Program} {w : World} {len cap : Nat} {k k' k'' : IntKind} {i j m : Int} {L H M : Nat} (hL : i = (L : Int)) (hH : j = (H : Int)) (hM : m = (M : Int)) (h0 : L ≤ H) (h1 : H ≤ M) (h2 : M ≤ cap) : (Instr.sliceBounds true len cap (some (.int k i)) (some (.int k' j)) (some (.int k'' m))).run P w = .ok (L, H, M) w := by
  subst hL; subst hH; subst hM
  simp [Instr.sliceBounds, Instr.sliceBound, asIntOf, h0, h1, h2]
end Go.Proofs.YtodeldmdbeocfaaGreatDoor.Eng
