/- The engine, fourth part: numbers and bits; what an append leaves of other facts. -/
import Derived.Test.YtodeldmdbeocfaaGreatDoorEngApp
namespace Go.Proofs.YtodeldmdbeocfaaGreatDoor.Eng
open Go
theorem w_i64 (n : Int) (h₀ : 0 ≤ n) (h₁ : n < 2 ^ 63) : IntKind.i64.wrap n = n := by rw [IntKind.wrap_i64]; omega
theorem w_u64 (n : Int) (h₀ : 0 ≤ n) (h₁ : n < 2 ^ 64) : IntKind.u64.wrap n = n := by rw [IntKind.wrap_u64]; omega
theorem w_u8 (n : Int) (h₀ : 0 ≤ n) (h₁ : n < 2 ^ 8) : IntKind.u8.wrap n = n := by rw [IntKind.wrap_u8]; omega
theorem w_u32 (n : Int) (h₀ : 0 ≤ n) (h₁ : n < 2 ^ 32) : IntKind.u32.wrap n = n := by rw [IntKind.wrap_u32]; omega
/-- x | y where y lies beneath x's lowest bit. -/
theorem or_i64 (s : Nat) {x y : Int} (h : 0 ≤ x) (h1 : x % 2 ^ s = 0) (h2 : x < 2 ^ 63) (h3 : 0 ≤ y) (h4 : y < 2 ^ s) (h5 : y < 2 ^ 63) : bits .or .i64 x y = x + y := bits_join .i64 63 (by decide) w_i64 s x y h h1 h2 h3 h4 h5
theorem or_u64 (s : Nat) {x y : Int} (h : 0 ≤ x) (h1 : x % 2 ^ s = 0) (h2 : x < 2 ^ 64) (h3 : 0 ≤ y) (h4 : y < 2 ^ s) (h5 : y < 2 ^ 64) : bits .or .u64 x y = x + y := bits_join .u64 64 (by decide) w_u64 s x y h h1 h2 h3 h4 h5
theorem or_u32 (s : Nat) {x y : Int} (h : 0 ≤ x) (h1 : x % 2 ^ s = 0) (h2 : x < 2 ^ 32) (h3 : 0 ≤ y) (h4 : y < 2 ^ s) (h5 : y < 2 ^ 32) : bits .or .u32 x y = x + y := bits_join .u32 32 (by decide) w_u32 s x y h h1 h2 h3 h4 h5
/-- x & (2^s - 1). -/
theorem and_u8 (s : Nat) (hs : s ≤ 8) {x m p : Int} (hp : (2 : Int) ^ s = p) (hm : p - 1 = m) (h : 0 ≤ x) (h2 : x < 2 ^ 8) : bits .and .u8 x m = x % p := by subst hp; exact hm ▸ bits_mask .u8 8 (by decide) w_u8 s hs x h h2
theorem and_i64 (s : Nat) (hs : s ≤ 63) {x m p : Int} (hp : (2 : Int) ^ s = p) (hm : p - 1 = m) (h : 0 ≤ x) (h2 : x < 2 ^ 63) : bits .and .i64 x m = x % p := by subst hp; exact hm ▸ bits_mask .i64 63 (by decide) w_i64 s hs x h h2
theorem and_u64 (s : Nat) (hs : s ≤ 64) {x m p : Int} (hp : (2 : Int) ^ s = p) (hm : p - 1 = m) (h : 0 ≤ x) (h2 : x < 2 ^ 64) : bits .and .u64 x m = x % p := by subst hp; exact hm ▸ bits_mask .u64 64 (by decide) w_u64 s hs x h h2

/-- These bytes lie from that place on. -/
def Bs (w : World) (b o : Nat) (l : List UInt8) : Prop := ∀ j c, l[j]? = some c → w.cell? ⟨b, o + j, none⟩ = some (bv c)
theorem Bs.ch {S : Nat → Prop} {w w' : World} {b o : Nat} {l : List UInt8} (h : Bs w b o l) (hc : Ch S w w') (hs : ¬ S b) : Bs w' b o l := fun j c hj => by
  have h1 := h j c hj
  have hlt := World.block_lt_of_cell? w _ h1
  rw [World.cell?_of_block (w := w) (hc.block b hlt hs)]; exact h1
theorem Bs.no {w w' : World} {b o : Nat} {l : List UInt8} (h : Bs w b o l) (hc : Ch No w w') : Bs w' b o l := h.ch hc id
theorem Bs.nil (w : World) (b o : Nat) : Bs w b o [] := fun j c h => by simp at h
theorem Bs.get {w : World} {b o : Nat} {l : List UInt8} (h : Bs w b o l) {j : Nat} (hj : j < l.length) {p : Nat} (hp : p = o + j) : w.cell? ⟨b, p, none⟩ = some (bv l[j]) := by subst hp; exact h j _ (List.getElem?_eq_getElem hj)
theorem Bs.drop {w : World} {b o k : Nat} {l : List UInt8} (h : Bs w b o l) : Bs w b (o + k) (l.drop k) := fun j c hj => by
  rw [List.getElem?_drop] at hj
  have := h (k + j) c hj
  rwa [← Nat.add_assoc] at this
theorem Bs.take {w : World} {b o k : Nat} {l : List UInt8} (h : Bs w b o l) : Bs w b o (l.take k) := fun j c hj => by
  rw [List.getElem?_take] at hj
  split at hj
  · exact h j c hj
  · cases hj
theorem Bs.ofOwns {w : World} {base b n' cap n : Nat} {T : TypeId} {l : List UInt8} (h : Owns w base T 1 (.slice (some ⟨b, 0, none⟩) n' cap) n (l.map bv)) : Bs w b 0 l := fun j c hj => by
  rw [Nat.zero_add]; exact h.cell (by simp [hj])
inductive Fills (l : Fr) (place : Nat → Option (Nat × Nat)) : List Value → List (Nat × Operand) → List Value → Prop
  | nil {cs : List Value} : Fills l place cs [] cs
  | cons {cs cs' vs : List Value} {i off sz : Nat} {x : Operand} {v : Value} {rest : List (Nat × Operand)} (h : place i = some (off, sz)) (hx : Ev l x v) (hv : v.cells = vs.toArray) (hsz : vs.length = sz) (hle : Nat.ble (off + sz) cs.length = true)
      (k : Fills l place (setMany cs off vs) rest cs') : Fills l place cs ((i, x) :: rest) cs'
theorem foldl_setMany : ∀ (vs : List Value) (cs : List Value) (off i : Nat), ((vs.zipIdx i).foldl (fun (cs : Array Value) (p : Value × Nat) => cs.setIfInBounds (off + p.2) p.1) cs.toArray) = (setMany cs (off + i) vs).toArray
  | [], cs, off, i => by simp [setMany]
  | v :: r, cs, off, i => by
    have := foldl_setMany r (cs.set (off + i) v) off (i + 1)
    simp only [List.zipIdx_cons, List.foldl_cons, List.setIfInBounds_toArray, setMany]
    rw [this]; rfl
theorem Fills.eq {l : Fr} {place : Nat → Option (Nat × Nat)} {cs cs' : List Value} {ps : List (Nat × Operand)} {a : Act} (h : Fills l place cs ps cs') (ha : Knows l a) : Instr.fill place cs.toArray (ps.map fun (i, x) => (i, a.eval x)) = some cs'.toArray := by
  induction h with
  | nil => simp [Instr.fill]
  | cons h hx hv hsz hle k ih =>
    have hle' := Nat.le_of_ble_eq_true hle
    subst hsz
    simp only [List.map_cons, Instr.fill, h, hx.eq ha, hv]
    rw [if_neg (by simp; omega)]
    have hf := foldl_setMany _ _ _ 0 ▸ ih
    simpa using hf
theorem Run.build {P : Program} {l : Fr} {w : World} {ty T : TypeId} {fs : Array Field} {zc cs' : List Value} {ps : List (Nat × Operand)} {places : Array (Nat × Nat)} (hu : P.underlying T = some (.struct fs)) (hz : (zeroValue T).run P w = .ok (.agg zc.toArray) w)
    (hp : (fs.mapM fun f => do pure (f.offset, ← sizeOf f.type) : Sem (Array (Nat × Nat))).run P w = .ok places w) (hf : Fills l (places[·]?) zc ps cs') : Run P l (.build T ps.toArray) ty w (.ok (.value (.agg cs'.toArray)) w) := fun a ha _ _ _ _ => by
  have := hf.eq ha
  simp only [execOp, Instr.build, Sem.run_bind, hz, Result.andThen_ok, run_underlying hu, hp, List.map_toArray, this, Value.cells]
  simp
theorem bv_lt (c : UInt8) : (0 : Int) ≤ (c.toNat : Int) ∧ (c.toNat : Int) ≤ 255 := ⟨by omega, by have := c.toNat_lt; omega⟩

theorem Ch.ownv {S : Nat → Prop} {a b c : World} {base : Nat} {T : TypeId} {sz : Nat} {v : Value} {n : Nat} {xs : List Value} (h : Ch S a b) (hO : Owns b base T sz v n xs) (k : Ch (ownB v) b c) (hb : a.heap.size ≤ base) : Ch S a c :=
  h.comp k (fun i hi hlt => by have := (hO.ge i hi).1; omega)
theorem Blk.ownv {b c : World} {x base : Nat} {TB T : TypeId} {sz : Nat} {v : Value} {n : Nat} {xs cs : List Value} (h : Blk b x TB cs) (hO : Owns b base T sz v n xs) (k : Ch (ownB v) b c) (hb : x < base) : Blk c x TB cs :=
  h.ch k (fun hi => by have := (hO.ge x hi).1; omega)
end Go.Proofs.YtodeldmdbeocfaaGreatDoor.Eng
