/- The book of lists that the statements keep: what stands in memory for it. -/
import Derived.Test.YtggngmmbpkoooaaHdI
namespace Go.Proofs.Ytggngmmbpkoooaa.Bk
open Go Go.Proofs.Ytggngmmbpkoooaa.Eng Go.Proofs.Ytggngmmbpkoooaa.Hd
set_option linter.unusedVariables false
set_option linter.unusedSimpArgs false
/-- What a block of this call is for. -/
inductive Role
  | none | book | list (m : Nat) | got | want | late | fresh (i : Nat) | text
def Roles (w : World) (base : Nat) (ρ : Nat → Role) : Prop := ∀ k, ρ k ≠ .none → base ≤ k ∧ k < w.heap.size
def inB (ρ : Nat → Role) (v : Value) (r : Role) : Prop := ∀ k, ownB v k → ρ k = r
open Classical in
noncomputable def setR (ρ : Nat → Role) (v : Value) (r : Role) : Nat → Role := fun k => if ownB v k then r else ρ k
theorem setR_own {ρ : Nat → Role} {v : Value} {r : Role} {k : Nat} (h : ownB v k) : setR ρ v r k = r := by unfold setR; rw [if_pos h]
theorem setR_not {ρ : Nat → Role} {v : Value} {r : Role} {k : Nat} (h : ¬ ownB v k) : setR ρ v r k = ρ k := by unfold setR; rw [if_neg h]
theorem Roles.up {w w' : World} {base : Nat} {ρ : Nat → Role} (h : Roles w base ρ) (hs : w.heap.size ≤ w'.heap.size) : Roles w' base ρ := fun k hk => ⟨(h k hk).1, Nat.lt_of_lt_of_le (h k hk).2 hs⟩
theorem Roles.set {w w' : World} {base : Nat} {ρ : Nat → Role} {v : Value} {r : Role} (h : Roles w base ρ) (hs : w.heap.size ≤ w'.heap.size) (hv : ∀ k, ownB v k → base ≤ k ∧ k < w'.heap.size) : Roles w' base (setR ρ v r) := fun k hk => by
  by_cases ho : ownB v k
  · exact hv k ho
  · rw [setR_not ho] at hk; exact h.up hs k hk
theorem blk_same {w : World} {b : Nat} {T T' : TypeId} {cs cs' : List Value} (h : Blk w b T cs) (h' : Blk w b T' cs') : T = T' ∧ cs = cs' := by
  obtain ⟨f, h, _⟩ := h
  obtain ⟨f', h', _⟩ := h'
  rw [h] at h'
  simp only [Option.some.injEq, Obj.cells.injEq] at h'
  obtain ⟨h1, h2, _⟩ := h'
  exact ⟨h2, by simpa using h1⟩
theorem owns_ne {w : World} {base b n sz : Nat} {T T' : TypeId} {v : Value} {xs cs : List Value} (o : Owns w base T sz v n xs) (B : Blk w b T' cs) (hT : Nat.beq T T' = false) : ¬ ownB v b := fun h => by
  rcases o.2 with ⟨rfl, _⟩ | ⟨k, cap, cs', rfl, _, hB, _⟩
  · exact h
  · have hk : b = k := h
    subst hk
    have := (blk_same hB B).1
    rw [this] at hT; simp at hT
theorem owns_ne2 {w : World} {base base' n n' sz sz' : Nat} {T T' : TypeId} {v v' : Value} {xs ys : List Value} (o : Owns w base T sz v n xs) (o' : Owns w base' T' sz' v' n' ys) (hT : Nat.beq T T' = false) : ∀ k, ownB v' k → ¬ ownB v k := fun k hk => by
  rcases o'.2 with ⟨rfl, _⟩ | ⟨k', cap, cs', rfl, _, hB, _⟩
  · exact hk.elim
  · have hk' : k = k' := hk
    subst hk'
    exact owns_ne o hB hT
/-- the mark of list m at place j. -/
def at8 (m j : Nat) : UInt8 := if j % 2 = 0 then u8 (1 + (m : Int) % 251) else u8 (1 + (7 * (m : Int) + (m : Int) / 251) % 251)
def row (m n : Nat) : List UInt8 := (List.range n).map (at8 m)
theorem row_len (m n : Nat) : (row m n).length = n := by simp [row]
theorem row_succ (m n : Nat) : row m (n + 1) = row m n ++ [at8 m n] := by simp [row, List.range_succ]
theorem row_get {m n j : Nat} (h : j < n) : (row m n)[j]? = some (at8 m j) := by simp [row, List.getElem?_range h]
def elen : Value → Nat
  | .slice _ n _ => n
  | _ => 0
/-- A list that is kept, with its mark. -/
def Kept (w : World) (ρ : Nat → Role) (e : Value × Nat) : Prop :=
  e.1 = .slice none 0 0 ∨ ∃ k len cap cs, e.1 = .slice (some ⟨k, 0, none⟩) len cap ∧ ρ k = .list e.2 ∧ Blk w k 5 cs ∧ cs.length = cap ∧ len ≤ cap ∧ cap ≤ 9223372036854775807 ∧ ∀ j, j < len → cs[j]? = some (bv (at8 e.2 j))
theorem Kept.ch {S : Nat → Prop} {w w' : World} {ρ : Nat → Role} {e : Value × Nat} (h : Kept w ρ e) (hc : Ch S w w') (hS : ∀ k, S k → ρ k ≠ .list e.2) : Kept w' ρ e := by
  rcases h with h | ⟨k, len, cap, cs, hv, hr, hB, r⟩
  · exact .inl h
  · exact .inr ⟨k, len, cap, cs, hv, hr, hB.ch hc (fun hs => hS k hs hr), r⟩
theorem Kept.role {w : World} {ρ ρ' : Nat → Role} {e : Value × Nat} (h : Kept w ρ e) (hr' : ∀ k, k < w.heap.size → ρ k = .list e.2 → ρ' k = .list e.2) : Kept w ρ' e := by
  rcases h with h | ⟨k, len, cap, cs, hv, hr, hB, r⟩
  · exact .inl h
  · exact .inr ⟨k, len, cap, cs, hv, hr' k hB.lt hr, hB, r⟩
theorem Kept.owns {w : World} {ρ : Nat → Role} {g : Value} {m : Nat} (h : Kept w ρ (g, m)) : Owns w 0 5 1 g (elen g) ((row m (elen g)).map bv) := by
  refine ⟨by simp [row_len], ?_⟩
  rcases h with h | ⟨k, len, cap, cs, hv, hr, hB, hl, h1, h2, hc⟩
  · exact .inl ⟨h, by simp only at h; rw [h]; rfl⟩
  · simp only at hv
    subst hv
    refine .inr ⟨k, cap, cs, rfl, Nat.zero_le _, hB, by omega, h1, h2, ?_⟩
    show cs.take (len * 1) = (row m len).map bv
    rw [Nat.mul_one]
    apply List.ext_getElem?
    intro j
    rw [List.getElem?_take]
    split
    · rename_i hj
      rw [hc j hj, List.getElem?_map, row_get hj]; rfl
    · rw [List.getElem?_eq_none (by simp [row_len]; omega)]
theorem Kept.made {w : World} {ρ : Nat → Role} {base n m : Nat} {v : Value} (o : Owns w base 5 1 v n ((row m n).map bv)) (hr : inB ρ v (.list m)) : Kept w ρ (v, m) := by
  rcases o.2 with ⟨hv, _⟩ | ⟨b, cap, cs, hv, hb, hB, hl, h1, h2, ht⟩
  · exact .inl hv
  · refine .inr ⟨b, n, cap, cs, hv, hr b (by rw [hv]; rfl), hB, by omega, h1, h2, fun j hj => ?_⟩
    rw [Nat.mul_one] at ht
    have : (cs.take n)[j]? = some (bv (at8 m j)) := by rw [ht, List.getElem?_map, row_get hj]; rfl
    rwa [List.getElem?_take_of_lt hj] at this
/-- A kept list that one byte more was appended to, its own mark's: it is kept, and so is all else. -/
theorem kept_grown {w w' : World} {ρ : Nat → Role} {base m : Nat} {g g' : Value} (hR : Roles w base ρ) (hbase : base ≤ w.heap.size) (hk : Kept w ρ (g, m)) (ho : Owns w' 0 5 1 g' (elen g + 1) ((row m (elen g)).map bv ++ [bv (at8 m (elen g))])) (hch : Ch (ownB g) w w')
    (hex : (∀ k, ownB g' k → w.heap.size ≤ k) ∧ Ch No w w' ∨ ∃ b cap cs, g = .slice (some ⟨b, 0, none⟩) (elen g) cap ∧ Blk w b 5 cs ∧ g' = .slice (some ⟨b, 0, none⟩) (elen g + 1) cap ∧ Blk w' b 5 (setMany cs (elen g * 1) [bv (at8 m (elen g))])) :
    ∃ ρ', Kept w' ρ' (g', m) ∧ elen g' = elen g + 1 ∧ Roles w' base ρ' ∧ (∀ k, k < w.heap.size → ρ' k = ρ k) ∧ (∀ e, Kept w ρ e → Kept w' ρ' e) ∧ Ch (fun k => ρ k = .list m) w w' := by
  have hel : elen g' = elen g + 1 := by
    rcases ho.2 with ⟨_, h⟩ | ⟨b, cap, cs, hv, _⟩
    · omega
    · rw [hv]; rfl
  have ho2 : Owns w' 0 5 1 g' (elen g + 1) ((row m (elen g + 1)).map bv) := by rw [row_succ, List.map_append]; exact ho
  rcases hex with ⟨hf, hn⟩ | ⟨b, cap, cs, hg, hB, hg', hB'⟩
  · refine ⟨setR ρ g' (.list m), Kept.made ho2 (fun k hk => setR_own hk), hel, hR.set hn.size (fun k hk => ⟨Nat.le_trans hbase (hf k hk), (ho.ge k hk).2⟩), fun k hk => setR_not (fun h => absurd (hf k h) (by omega)), fun e he => ?_, hn.mono (fun _ h => h.elim)⟩
    have h1 := he.ch hn (fun _ h => h.elim)
    rcases he with he | ⟨k, len, cap, cs, hv, hr, hBk, r⟩
    · exact .inl he
    · refine h1.role (fun k' hk' hr' => ?_)
      have hlt : k' < w.heap.size := (hR k' (by rw [hr']; exact fun h => by cases h)).2
      rw [setR_not (fun h => absurd (hf k' h) (by omega))]; exact hr'
  · have hrb : ρ b = .list m := by
      rcases hk with h | ⟨k, len, cap', cs', hv, hr, _⟩
      · simp only at h; rw [hg] at h; cases h
      · simp only at hv; rw [hg] at hv; cases hv; exact hr
    have hown : ∀ k, ownB g k → ρ k = .list m := fun k hk => by
      rw [hg] at hk
      have hk' : k = b := hk
      rw [hk']; exact hrb
    refine ⟨ρ, Kept.made ho2 (fun k hk => ?_), hel, hR.up hch.size, fun _ _ => rfl, fun e he => ?_, hch.mono hown⟩
    · rw [hg'] at hk
      have hk' : k = b := hk
      rw [hk']; exact hrb
    · rcases he with he | ⟨k, len, cap', cs', hv, hr, hBk, hcl, h1, h2, hcs⟩
      · exact .inl he
      · by_cases hkb : k = b
        · subst hkb
          obtain rfl := (blk_same hB hBk).2
          have hm : e.2 = m := by rw [hr] at hrb; cases hrb; rfl
          refine .inr ⟨k, len, cap', _, hv, hr, hB', by rw [length_setMany]; exact hcl, h1, h2, fun j hj => ?_⟩
          show (cs.set (elen g * 1) (bv (at8 m (elen g))))[j]? = _
          rw [Nat.mul_one, List.getElem?_set]
          split
          · rename_i hjj
            subst hjj
            rw [if_pos (by omega), hm]
          · exact hcs j hj
        · refine .inr ⟨k, len, cap', cs', hv, hr, hBk.ch hch (fun h => hkb ?_), hcl, h1, h2, hcs⟩
          rw [hg] at h; exact h
structure BookS where
  L : List (Value × Nat)
  at_ : Nat
  turn : Nat
  done : Nat
  used : Nat
abbrev none3 : List Value := [.slice none 0 0, .slice none 0 0, .int .i64 0]
def bookCells (v1 v2 : Value) (s : BookS) : List Value :=
  [v1, v2, .int .i64 (s.at_ : Int), .slice none 0 0, .slice none 0 0, .int .i64 0, .slice none 0 0, .slice none 0 0, .int .i64 0, .slice none 0 0, .slice none 0 0, .int .i64 0,
   .slice none 0 0, .slice none 0 0, .int .i64 0, .slice none 0 0, .slice none 0 0, .int .i64 0, .slice none 0 0, .slice none 0 0, .int .i64 0, .slice none 0 0, .slice none 0 0, .int .i64 0,
   .slice none 0 0, .slice none 0 0, .int .i64 0, .slice none 0 0, .slice none 0 0, .int .i64 0, .slice none 0 0, .slice none 0 0, .int .i64 0, .slice none 0 0, .slice none 0 0, .int .i64 0,
   .slice none 0 0, .slice none 0 0, .int .i64 0, .slice none 0 0, .slice none 0 0, .int .i64 0, .slice none 0 0, .slice none 0 0, .int .i64 0, .slice none 0 0, .slice none 0 0, .int .i64 0,
   .slice none 0 0, .slice none 0 0, .int .i64 0, .slice none 0 0, .slice none 0 0, .int .i64 0, .int .i64 (s.turn : Int), .int .i64 (s.done : Int), .int .i64 (s.used : Int)]
/-- The book's own blocks. -/
structure Core (w : World) (ρ : Nat → Role) (bb : Nat) (v1 v2 : Value) (L1 L2 : List (Value × Nat)) (s : BookS) : Prop where
  B : Blk w bb 46 (bookCells v1 v2 s)
  rb : ρ bb = .book
  o1 : Owns w 0 53 1 v1 L1.length (L1.map (·.1))
  i1 : inB ρ v1 .book
  o2 : Owns w 0 3 1 v2 L2.length (L2.map fun e => .int .i64 (e.2 : Int))
  i2 : inB ρ v2 .book
def All (w : World) (ρ : Nat → Role) (L : List (Value × Nat)) : Prop := ∀ e ∈ L, Kept w ρ e
theorem Core.ch {S : Nat → Prop} {w w' : World} {ρ : Nat → Role} {bb : Nat} {v1 v2 : Value} {L1 L2 : List (Value × Nat)} {s : BookS} (h : Core w ρ bb v1 v2 L1 L2 s) (hc : Ch S w w') (hS : ∀ k, S k → ρ k ≠ .book) : Core w' ρ bb v1 v2 L1 L2 s :=
  ⟨h.B.ch hc (fun hs => hS bb hs h.rb), h.rb, h.o1.ch hc (fun k hk hs => hS k hs (h.i1 k hk)), h.i1, h.o2.ch hc (fun k hk hs => hS k hs (h.i2 k hk)), h.i2⟩
theorem Core.role {w : World} {ρ ρ' : Nat → Role} {bb : Nat} {v1 v2 : Value} {L1 L2 : List (Value × Nat)} {s : BookS} (h : Core w ρ bb v1 v2 L1 L2 s) (hr : ∀ k, k < w.heap.size → ρ k = .book → ρ' k = .book) : Core w ρ' bb v1 v2 L1 L2 s :=
  ⟨h.B, hr bb h.B.lt h.rb, h.o1, fun k hk => hr k (h.o1.ge k hk).2 (h.i1 k hk), h.o2, fun k hk => hr k (h.o2.ge k hk).2 (h.i2 k hk)⟩
theorem All.ch {S : Nat → Prop} {w w' : World} {ρ : Nat → Role} {L : List (Value × Nat)} (h : All w ρ L) (hc : Ch S w w') (hS : ∀ k m, S k → ρ k ≠ .list m) : All w' ρ L := fun e he => (h e he).ch hc (fun k hs => hS k _ hs)
theorem All.role {w : World} {ρ ρ' : Nat → Role} {L : List (Value × Nat)} (h : All w ρ L) (hr : ∀ k m, k < w.heap.size → ρ k = .list m → ρ' k = .list m) : All w ρ' L := fun e he => (h e he).role (fun k hk h1 => hr k _ hk h1)
theorem Core.no {w w' : World} {ρ : Nat → Role} {bb : Nat} {v1 v2 : Value} {L1 L2 : List (Value × Nat)} {s : BookS} (h : Core w ρ bb v1 v2 L1 L2 s) (hc : Ch No w w') : Core w' ρ bb v1 v2 L1 L2 s := h.ch hc (fun _ h => h.elim)
theorem All.no {w w' : World} {ρ : Nat → Role} {L : List (Value × Nat)} (h : All w ρ L) (hc : Ch No w w') : All w' ρ L := h.ch hc (fun _ _ h => h.elim)
theorem Roles.no {w w' : World} {base : Nat} {ρ : Nat → Role} (h : Roles w base ρ) (hc : Ch No w w') : Roles w' base ρ := h.up hc.size
theorem Kept.no {w w' : World} {ρ : Nat → Role} {e : Value × Nat} (h : Kept w ρ e) (hc : Ch No w w') : Kept w' ρ e := h.ch hc (fun _ h => h.elim)
/-- What an append may have done: the row stands in a new block, or one cell more of the old one is written. -/
def Went (w w' : World) (T : TypeId) (v v' : Value) (n m size : Nat) (news : List Value) : Prop :=
  (∀ k, ownB v' k → w.heap.size ≤ k) ∧ Ch No w w' ∨ ∃ b cap cs, v = .slice (some ⟨b, 0, none⟩) n cap ∧ Blk w b T cs ∧ v' = .slice (some ⟨b, 0, none⟩) (n + m) cap ∧ Blk w' b T (setMany cs (n * size) news)
theorem Went.own {w w' : World} {T : TypeId} {v v' : Value} {n m size : Nat} {news : List Value} (h : Went w w' T v v' n m size news) : ∀ k, ownB v' k → ownB v k ∨ w.heap.size ≤ k := fun k hk => by
  rcases h with h | ⟨b, cap, cs, hv, _, hv', _⟩
  · exact .inr (h.1 k hk)
  · rw [hv'] at hk; rw [hv]; exact .inl hk
theorem core_put1 {w w' w2 : World} {ρ : Nat → Role} {bb base mm : Nat} {v1 v2 v1' x : Value} {L1 L2 L : List (Value × Nat)} {s : BookS} {news : List Value} (C : Core w ρ bb v1 v2 L1 L2 s) (K : All w ρ L) (R : Roles w base ρ) (hbase : base ≤ w.heap.size)
    (o : Owns w' 0 53 1 v1' (L1.length + 1) (L1.map (·.1) ++ [x])) (hch : Ch (ownB v1) w w') (hex : Went w w' 53 v1 v1' L1.length 1 1 news) (hc : Ch (One bb) w' w2) (hB : Blk w2 bb 46 (bookCells v1' v2 s)) :
    Core w2 (setR ρ v1' .book) bb v1' v2 (L1 ++ [(x, mm)]) L2 s ∧ All w2 (setR ρ v1' .book) L ∧ Roles w2 base (setR ρ v1' .book) ∧ (∀ k, k < w.heap.size → setR ρ v1' .book k = ρ k) ∧ Ch (fun k => ρ k = .book) w w2 := by
  have hag : ∀ k, k < w.heap.size → setR ρ v1' .book k = ρ k := fun k hk => by
    by_cases h : ownB v1' k
    · rw [setR_own h]
      rcases hex.own k h with h1 | h1
      · exact (C.i1 k h1).symm
      · omega
    · exact setR_not h
  have hw1 : Ch (fun k => ρ k = .book) w w' := hch.mono C.i1
  have hw2 : Ch (fun k => ρ k = .book) w w2 := hw1.trans (hc.mono (fun k hk => by have hk' : k = bb := hk; rw [hk']; exact C.rb))
  have hBw : Blk w' bb 46 (bookCells v1 v2 s) := C.B.ch hch (owns_ne C.o1 C.B rfl)
  have o2w := C.o2.ch hch (fun k hk => owns_ne2 C.o1 C.o2 rfl k hk)
  refine ⟨⟨hB, by rw [hag bb C.B.lt]; exact C.rb, ?_, fun k hk => setR_own hk, o2w.ch hc (fun k hk hs => ?_), fun k hk => ?_⟩, ?_, R.set (Nat.le_trans hch.size hc.size) (fun k hk => ?_), hag, hw2⟩
  · have := o.ch hc (fun k hk hs => by have hs' : k = bb := hs; subst hs'; exact owns_ne o hBw rfl hk)
    simpa using this
  · have hs' : k = bb := hs; subst hs'; exact owns_ne o2w hBw rfl hk
  · rw [hag k (C.o2.ge k hk).2]; exact C.i2 k hk
  · refine (K.ch hw2 (fun k m hk => by rw [hk]; exact fun h => by cases h)).role (fun k m hk hr => ?_)
    by_cases h : ownB v1' k
    · have hlt := (R k (by rw [hr]; exact fun h => by cases h)).2
      rw [hag k hlt]; exact hr
    · rw [setR_not h]; exact hr
  · refine ⟨?_, Nat.lt_of_lt_of_le (o.ge k hk).2 hc.size⟩
    rcases hex.own k hk with h1 | h1
    · exact (R k (by rw [C.i1 k h1]; exact fun h => by cases h)).1
    · omega
theorem core_put2 {w w' w2 : World} {ρ : Nat → Role} {bb base mm : Nat} {v1 v2 v2' x : Value} {L1 L2 L : List (Value × Nat)} {s : BookS} {news : List Value} (C : Core w ρ bb v1 v2 L1 L2 s) (K : All w ρ L) (R : Roles w base ρ) (hbase : base ≤ w.heap.size)
    (o : Owns w' 0 3 1 v2' (L2.length + 1) ((L2.map fun e => .int .i64 (e.2 : Int)) ++ [.int .i64 (mm : Int)])) (hch : Ch (ownB v2) w w') (hex : Went w w' 3 v2 v2' L2.length 1 1 news) (hc : Ch (One bb) w' w2) (hB : Blk w2 bb 46 (bookCells v1 v2' s)) :
    Core w2 (setR ρ v2' .book) bb v1 v2' L1 (L2 ++ [(x, mm)]) s ∧ All w2 (setR ρ v2' .book) L ∧ Roles w2 base (setR ρ v2' .book) ∧ (∀ k, k < w.heap.size → setR ρ v2' .book k = ρ k) ∧ Ch (fun k => ρ k = .book) w w2 := by
  have hag : ∀ k, k < w.heap.size → setR ρ v2' .book k = ρ k := fun k hk => by
    by_cases h : ownB v2' k
    · rw [setR_own h]
      rcases hex.own k h with h1 | h1
      · exact (C.i2 k h1).symm
      · omega
    · exact setR_not h
  have hw1 : Ch (fun k => ρ k = .book) w w' := hch.mono C.i2
  have hw2 : Ch (fun k => ρ k = .book) w w2 := hw1.trans (hc.mono (fun k hk => by have hk' : k = bb := hk; rw [hk']; exact C.rb))
  have hBw : Blk w' bb 46 (bookCells v1 v2 s) := C.B.ch hch (owns_ne C.o2 C.B rfl)
  have o1w := C.o1.ch hch (fun k hk => owns_ne2 C.o2 C.o1 rfl k hk)
  refine ⟨⟨hB, by rw [hag bb C.B.lt]; exact C.rb, o1w.ch hc (fun k hk hs => ?_), fun k hk => ?_, ?_, fun k hk => setR_own hk⟩, ?_, R.set (Nat.le_trans hch.size hc.size) (fun k hk => ?_), hag, hw2⟩
  · have hs' : k = bb := hs; subst hs'; exact owns_ne o1w hBw rfl hk
  · rw [hag k (C.o1.ge k hk).2]; exact C.i1 k hk
  · have := o.ch hc (fun k hk hs => by have hs' : k = bb := hs; subst hs'; exact owns_ne o hBw rfl hk)
    simpa using this
  · refine (K.ch hw2 (fun k m hk => by rw [hk]; exact fun h => by cases h)).role (fun k m hk hr => ?_)
    by_cases h : ownB v2' k
    · have hlt := (R k (by rw [hr]; exact fun h => by cases h)).2
      rw [hag k hlt]; exact hr
    · rw [setR_not h]; exact hr
  · refine ⟨?_, Nat.lt_of_lt_of_le (o.ge k hk).2 hc.size⟩
    rcases hex.own k hk with h1 | h1
    · exact (R k (by rw [C.i2 k h1]; exact fun h => by cases h)).1
    · omega
section
variable {P : Program} {n : Nat} {ds : List Deferred} {ops : Array Oper} {Q : Exit → Act → World → Prop} {l : Fr} {w : World} {rest : List Oper}
theorem JL.append2 {d : Nat} {T U e ty : TypeId} {pos : String} {af : Array Edge} {x y : Operand} {base nn size bytes b m c : Nat} {TB : TypeId} {z v : Value} {xs news : List Value} (hd : Nat.blt d n = true)
    (hT : P.underlying T = some (.slice e)) (hU : P.underlying U = some (.slice e)) (hinfo : (P.info? e).map (fun i => (i.zero, i.size, i.bytes)) = some (some z, size, bytes)) (hzs : z.cells.size = size) (hby : 0 < bytes)
    (hx : Ev l x v) (hown : Owns w base e size v nn xs) (hy : Ev l y (.slice (some ⟨b, 0, none⟩) m c)) (hB : Blk w b TB news) (hl : news.length = m * size) (h1 : news.all one1 = true)
    (hbase : base ≤ w.heap.size) (hroom : (nn + m) * bytes ≤ 140737488355328)
    (k : ∀ v' w', Owns w' base e size v' (nn + m) (xs ++ news) → Ch (ownB v) w w' → Went w w' e v v' nn m size news → JL P n ds ops Q rest ((d, v') :: l) w') :
    JL P n ds ops Q (⟨some d, .call ⟨.builtin .append, #[x, y], #[T, U]⟩, ty, pos, af, none⟩ :: rest) l w := by
  have hS := Src.ofBlk (P := P) (c := c) hB hl
  obtain ⟨v', w', hr, ho, hch, hex⟩ := run_append2 (P := P) (w := w) (ty := ty) hT hU (.inr ⟨_, rfl⟩) hinfo hzs hby hS.1 hS.2 hl (fun u hu => List.all_eq_true.1 h1 u hu) hown hbase hroom
  exact JL.val hd (fun a ha _ _ _ _ => by simp [execOp, resolve, invoke, builtin, hx.eq ha, hy.eq ha, hr]) (k v' w' ho hch hex)
end
end Go.Proofs.Ytggngmmbpkoooaa.Bk
