/- The answers that nobody has written into yet, with what they must hold: what stands in memory for them. -/
import Derived.Test.YtggngmmbpkoooaaEngJb
import Derived.Test.YtggngmmbpkoooaaBkK
namespace Go.Proofs.Ytggngmmbpkoooaa.Bk
open Go Go.Proofs.Ytggngmmbpkoooaa.Eng Go.Proofs.Ytggngmmbpkoooaa.Hd
set_option linter.unusedVariables false
set_option linter.unusedSimpArgs false
theorem _root_.Go.Proofs.Ytggngmmbpkoooaa.Eng.SlB.ch {S : Nat → Prop} {w w' : World} {v : Value} {l : List UInt8} (h : SlB w v l) (hc : Ch S w w') (hS : ∀ k, ownB v k → ¬ S k) : SlB w' v l := by
  rcases h with h | ⟨b, o, s, cap, hv, h1, h2, hs, hb⟩
  · exact .inl h
  · exact .inr ⟨b, o, s, cap, hv, h1, h2, hs, hb.ch hc (hS b (by rw [hv]; rfl))⟩
/-- got, want, and what the answer must hold. -/
abbrev Ent := Value × Value × List UInt8
structure LateOk (w : World) (ρ : Nat → Role) (tb : Nat) (g1 g2 : Value) (G1 G2 : List Ent) : Prop where
  B : Blk w tb 49 [g1, g2]
  rb : ρ tb = .late
  o1 : Owns w 0 53 1 g1 G1.length (G1.map (·.1))
  i1 : inB ρ g1 .got
  o2 : Owns w 0 53 1 g2 G2.length (G2.map (·.2.1))
  i2 : inB ρ g2 .want
/-- one answer, the i-th. -/
def EntOk (w : World) (ρ : Nat → Role) (i : Nat) (e : Ent) : Prop := Owns w 0 5 1 e.1 (elen e.1) (e.2.2.map bv) ∧ inB ρ e.1 (.fresh i) ∧ SlB w e.2.1 e.2.2 ∧ inB ρ e.2.1 .text
def Ents (w : World) (ρ : Nat → Role) (G : List Ent) : Prop := ∀ i e, G[i]? = some e → EntOk w ρ i e
theorem Ents.ch {S : Nat → Prop} {w w' : World} {ρ : Nat → Role} {G : List Ent} (h : Ents w ρ G) (hc : Ch S w w') (hS : ∀ k, S k → ρ k ≠ .text ∧ ∀ i, ρ k ≠ .fresh i) : Ents w' ρ G := fun i e he =>
  ⟨(h i e he).1.ch hc (fun k hk hs => (hS k hs).2 i ((h i e he).2.1 k hk)), (h i e he).2.1, (h i e he).2.2.1.ch hc (fun k hk hs => (hS k hs).1 ((h i e he).2.2.2 k hk)), (h i e he).2.2.2⟩
theorem Ents.no {w w' : World} {ρ : Nat → Role} {G : List Ent} (h : Ents w ρ G) (hc : Ch No w w') : Ents w' ρ G := h.ch hc (fun _ h => h.elim)
theorem Ents.role {w : World} {ρ ρ' : Nat → Role} {G : List Ent} (h : Ents w ρ G) (hr : ∀ k, ρ k = .text → ρ' k = .text) (hr2 : ∀ k i, ρ k = .fresh i → ρ' k = .fresh i) : Ents w ρ' G := fun i e he =>
  ⟨(h i e he).1, fun k hk => hr2 k i ((h i e he).2.1 k hk), (h i e he).2.2.1, fun k hk => hr k ((h i e he).2.2.2 k hk)⟩
theorem LateOk.ch {S : Nat → Prop} {w w' : World} {ρ : Nat → Role} {tb : Nat} {g1 g2 : Value} {G1 G2 : List Ent} (h : LateOk w ρ tb g1 g2 G1 G2) (hc : Ch S w w') (hS : ∀ k, S k → ρ k ≠ .late ∧ ρ k ≠ .got ∧ ρ k ≠ .want) : LateOk w' ρ tb g1 g2 G1 G2 :=
  ⟨h.B.ch hc (fun hs => (hS tb hs).1 h.rb), h.rb, h.o1.ch hc (fun k hk hs => (hS k hs).2.1 (h.i1 k hk)), h.i1, h.o2.ch hc (fun k hk hs => (hS k hs).2.2 (h.i2 k hk)), h.i2⟩
theorem LateOk.no {w w' : World} {ρ : Nat → Role} {tb : Nat} {g1 g2 : Value} {G1 G2 : List Ent} (h : LateOk w ρ tb g1 g2 G1 G2) (hc : Ch No w w') : LateOk w' ρ tb g1 g2 G1 G2 := h.ch hc (fun _ h => h.elim)
theorem LateOk.role {w : World} {ρ ρ' : Nat → Role} {tb : Nat} {g1 g2 : Value} {G1 G2 : List Ent} (h : LateOk w ρ tb g1 g2 G1 G2) (hr : ∀ k, k < w.heap.size → ρ k = .late ∨ ρ k = .got ∨ ρ k = .want → ρ' k = ρ k) : LateOk w ρ' tb g1 g2 G1 G2 :=
  ⟨h.B, (hr tb h.B.lt (.inl h.rb)).trans h.rb, h.o1, fun k hk => (hr k (h.o1.ge k hk).2 (.inr (.inl (h.i1 k hk)))).trans (h.i1 k hk), h.o2, fun k hk => (hr k (h.o2.ge k hk).2 (.inr (.inr (h.i2 k hk)))).trans (h.i2 k hk)⟩
/-- roles of Late's own blocks. -/
def isL (ρ : Nat → Role) (k : Nat) : Prop := ρ k = .late ∨ ρ k = .got ∨ ρ k = .want
theorem setR_old {w : World} {ρ : Nat → Role} {v v' : Value} {r : Role} (hi : inB ρ v r) (hex : ∀ k, ownB v' k → ownB v k ∨ w.heap.size ≤ k) : ∀ k, k < w.heap.size → setR ρ v' r k = ρ k := fun k hk => by
  by_cases h : ownB v' k
  · rw [setR_own h]
    rcases hex k h with h1 | h1
    · exact (hi k h1).symm
    · omega
  · exact setR_not h
theorem late_put1 {w w' w2 : World} {ρ : Nat → Role} {tb base : Nat} {g1 g2 g1' x : Value} {G1 G2 : List Ent} {e : Ent} {news : List Value} (C : LateOk w ρ tb g1 g2 G1 G2) (R : Roles w base ρ) (hbase : AtLeast w base) (hx : e.1 = x)
    (o : Owns w' 0 53 1 g1' (G1.length + 1) (G1.map (·.1) ++ [x])) (hch : Ch (ownB g1) w w') (hex : Went w w' 53 g1 g1' G1.length 1 1 news) (hc : Ch (One tb) w' w2) (hB : Blk w2 tb 49 [g1', g2]) :
    LateOk w2 (setR ρ g1' .got) tb g1' g2 (G1 ++ [e]) G2 ∧ Roles w2 base (setR ρ g1' .got) ∧ (∀ k, k < w.heap.size → setR ρ g1' .got k = ρ k) ∧ Ch (isL ρ) w w2 := by
  subst hx
  have hag := setR_old (w := w) C.i1 hex.own
  have hw1 : Ch (isL ρ) w w' := hch.mono (fun k hk => .inr (.inl (C.i1 k hk)))
  have hw2 : Ch (isL ρ) w w2 := hw1.trans (hc.mono (fun k hk => by have hk' : k = tb := hk; rw [hk']; exact .inl C.rb))
  have hBw : Blk w' tb 49 [g1, g2] := C.B.ch hch (owns_ne C.o1 C.B rfl)
  have o2w := C.o2.ch hch (fun k hk hs => by have h1 := C.i1 k hs; have h2 := C.i2 k hk; rw [h1] at h2; cases h2)
  refine ⟨⟨hB, by rw [hag tb C.B.lt]; exact C.rb, ?_, fun k hk => setR_own hk, o2w.ch hc (fun k hk hs => ?_), fun k hk => ?_⟩, R.set (Nat.le_trans hch.size hc.size) (fun k hk => ?_), hag, hw2⟩
  · have := o.ch hc (fun k hk hs => by have hs' : k = tb := hs; subst hs'; exact owns_ne o hBw rfl hk)
    simpa using this
  · have hs' : k = tb := hs; subst hs'; exact owns_ne o2w hBw rfl hk
  · rw [hag k (C.o2.ge k hk).2]; exact C.i2 k hk
  · refine ⟨?_, Nat.lt_of_lt_of_le (o.ge k hk).2 hc.size⟩
    rcases hex.own k hk with h1 | h1
    · exact (R k (by rw [C.i1 k h1]; exact fun h => by cases h)).1
    · have := hbase; unfold AtLeast at this; omega
theorem late_put2 {w w' w2 : World} {ρ : Nat → Role} {tb base : Nat} {g1 g2 g2' x : Value} {G1 G2 : List Ent} {e : Ent} {news : List Value} (C : LateOk w ρ tb g1 g2 G1 G2) (R : Roles w base ρ) (hbase : AtLeast w base) (hx : e.2.1 = x)
    (o : Owns w' 0 53 1 g2' (G2.length + 1) (G2.map (·.2.1) ++ [x])) (hch : Ch (ownB g2) w w') (hex : Went w w' 53 g2 g2' G2.length 1 1 news) (hc : Ch (One tb) w' w2) (hB : Blk w2 tb 49 [g1, g2']) :
    LateOk w2 (setR ρ g2' .want) tb g1 g2' G1 (G2 ++ [e]) ∧ Roles w2 base (setR ρ g2' .want) ∧ (∀ k, k < w.heap.size → setR ρ g2' .want k = ρ k) ∧ Ch (isL ρ) w w2 := by
  subst hx
  have hag := setR_old (w := w) C.i2 hex.own
  have hw1 : Ch (isL ρ) w w' := hch.mono (fun k hk => .inr (.inr (C.i2 k hk)))
  have hw2 : Ch (isL ρ) w w2 := hw1.trans (hc.mono (fun k hk => by have hk' : k = tb := hk; rw [hk']; exact .inl C.rb))
  have hBw : Blk w' tb 49 [g1, g2] := C.B.ch hch (owns_ne C.o2 C.B rfl)
  have o1w := C.o1.ch hch (fun k hk hs => by have h1 := C.i2 k hs; have h2 := C.i1 k hk; rw [h1] at h2; cases h2)
  refine ⟨⟨hB, by rw [hag tb C.B.lt]; exact C.rb, o1w.ch hc (fun k hk hs => ?_), fun k hk => ?_, ?_, fun k hk => setR_own hk⟩, R.set (Nat.le_trans hch.size hc.size) (fun k hk => ?_), hag, hw2⟩
  · have hs' : k = tb := hs; subst hs'; exact owns_ne o1w hBw rfl hk
  · rw [hag k (C.o1.ge k hk).2]; exact C.i1 k hk
  · have := o.ch hc (fun k hk hs => by have hs' : k = tb := hs; subst hs'; exact owns_ne o hBw rfl hk)
    simpa using this
  · refine ⟨?_, Nat.lt_of_lt_of_le (o.ge k hk).2 hc.size⟩
    rcases hex.own k hk with h1 | h1
    · exact (R k (by rw [C.i2 k h1]; exact fun h => by cases h)).1
    · have := hbase; unfold AtLeast at this; omega
end Go.Proofs.Ytggngmmbpkoooaa.Bk
