/- The engine, third part: slices of the call's own: make, append, literals. Over any program. -/
import Derived.Test.YtodeldmdbeocfaaGreatDoorEngOps
namespace Go.Proofs.YtodeldmdbeocfaaGreatDoor.Eng
open Go
set_option linter.unusedVariables false
set_option linter.unusedSimpArgs false

/-- A slice of the call's own (nil, or the head of a row in a block from base on) that holds these cells. -/
def Owns (w : World) (base : Nat) (T : TypeId) (sz : Nat) (v : Value) (n : Nat) (xs : List Value) : Prop :=
  xs.length = n * sz ∧ ((v = .slice none 0 0 ∧ n = 0) ∨
    ∃ b cap cs, v = .slice (some ⟨b, 0, none⟩) n cap ∧ base ≤ b ∧ Blk w b T cs ∧ cs.length = cap * sz ∧ n ≤ cap ∧ cap ≤ 9223372036854775807 ∧ cs.take (n * sz) = xs)
def ownB : Value → Nat → Prop
  | .slice (some a) _ _ => fun k => k = a.block
  | _ => fun _ => False

theorem Owns.nil (w : World) (base : Nat) (T : TypeId) (sz : Nat) : Owns w base T sz (.slice none 0 0) 0 [] := ⟨by simp, .inl ⟨rfl, rfl⟩⟩
theorem Owns.ge {w : World} {base : Nat} {T : TypeId} {sz : Nat} {v : Value} {n : Nat} {xs : List Value} (h : Owns w base T sz v n xs) : ∀ k, ownB v k → base ≤ k ∧ k < w.heap.size := by
  intro k hk
  rcases h.2 with ⟨rfl, _⟩ | ⟨b, cap, cs, rfl, hb, hB, _⟩
  · exact hk.elim
  · have : k = b := hk
    subst this; exact ⟨hb, hB.lt⟩
theorem Owns.ch {S : Nat → Prop} {w w' : World} {base : Nat} {T : TypeId} {sz : Nat} {v : Value} {n : Nat} {xs : List Value} (h : Owns w base T sz v n xs) (hc : Ch S w w') (hs : ∀ k, ownB v k → ¬ S k) : Owns w' base T sz v n xs := by
  refine ⟨h.1, ?_⟩
  rcases h.2 with hn | ⟨b, cap, cs, rfl, hb, hB, r⟩
  · exact .inl hn
  · exact .inr ⟨b, cap, cs, rfl, hb, hB.ch hc (hs b rfl), r⟩
theorem Owns.no {w w' : World} {base : Nat} {T : TypeId} {sz : Nat} {v : Value} {n : Nat} {xs : List Value} (h : Owns w base T sz v n xs) (hc : Ch No w w') : Owns w' base T sz v n xs := h.ch hc (fun _ _ => id)
theorem Owns.mono {w : World} {base base' : Nat} {T : TypeId} {sz : Nat} {v : Value} {n : Nat} {xs : List Value} (h : Owns w base T sz v n xs) (hb : base' ≤ base) : Owns w base' T sz v n xs := by
  refine ⟨h.1, ?_⟩
  rcases h.2 with hn | ⟨b, cap, cs, hv, hb', r⟩
  · exact .inl hn
  · exact .inr ⟨b, cap, cs, hv, Nat.le_trans hb hb', r⟩
theorem Owns.ofBlk {w : World} {base b : Nat} {T : TypeId} {sz n cap : Nat} {cs : List Value} (hB : Blk w b T cs) (hb : base ≤ b) (hl : cs.length = cap * sz) (hn : n ≤ cap) (hc : cap ≤ 9223372036854775807) : Owns w base T sz (.slice (some ⟨b, 0, none⟩) n cap) n (cs.take (n * sz)) :=
  ⟨by rw [List.length_take, hl]; exact Nat.min_eq_left (Nat.mul_le_mul_right _ hn), .inr ⟨b, cap, cs, rfl, hb, hB, hl, hn, hc, rfl⟩⟩
/-- The cells that the slice holds. -/
theorem Owns.cell {w : World} {base b n' cap : Nat} {T : TypeId} {sz : Nat} {n : Nat} {xs : List Value} (h : Owns w base T sz (.slice (some ⟨b, 0, none⟩) n' cap) n xs) {j : Nat} {u : Value} (hj : xs[j]? = some u) : w.cell? ⟨b, j, none⟩ = some u := by
  rcases h.2 with ⟨hv, _⟩ | ⟨b', cap', cs, hv, hb, hB, hl, hn, hc, ht⟩
  · cases hv
  · simp only [Value.slice.injEq, Option.some.injEq, Addr.mk.injEq] at hv
    obtain ⟨⟨rfl, _, _⟩, rfl, rfl⟩ := hv
    refine hB.cell ?_
    rw [← ht, List.getElem?_take] at hj
    split at hj
    · exact hj
    · cases hj

theorem length_setMany : ∀ (vs cs : List Value) (j : Nat), (setMany cs j vs).length = cs.length
  | [], cs, j => rfl
  | v :: r, cs, j => by simp [setMany, length_setMany r]
theorem setMany_take : ∀ (vs cs : List Value) (j : Nat), j + vs.length ≤ cs.length → (setMany cs j vs).take (j + vs.length) = cs.take j ++ vs
  | [], cs, j, h => by simp [setMany]
  | v :: r, cs, j, h => by
    have h' : j + 1 + r.length ≤ (cs.set j v).length := by simp at h ⊢; omega
    have ih := setMany_take r (cs.set j v) (j + 1) h'
    have hj : j < cs.length := by simp at h; omega
    simp only [setMany, List.length_cons]
    rw [show j + (r.length + 1) = j + 1 + r.length from by omega, ih]
    rw [List.take_succ_eq_append_getElem (by simpa using hj)]
    simp [List.take_set_of_le (Nat.le_refl j)]

section
variable {P : Program} {w : World}

theorem info3 {e : TypeId} {z : Value} {size bytes : Nat} (h : (P.info? e).map (fun i => (i.zero, i.size, i.bytes)) = some (some z, size, bytes)) : ∃ i, P.info? e = some i ∧ i.zero = some z ∧ i.size = size ∧ i.bytes = bytes := by
  cases hi : P.info? e with
  | none => rw [hi] at h; cases h
  | some i => rw [hi] at h; simp at h; exact ⟨i, rfl, h.1, h.2.1, h.2.2⟩

theorem run_append2 {T U e ty : TypeId} {du : TypeDesc} {base n m size bytes : Nat} {z v y : Value} {xs news : List Value} (hT : P.underlying T = some (.slice e)) (hU : P.underlying U = some du) (hdu : du = .string ∨ ∃ e', du = .slice e')
    (hinfo : (P.info? e).map (fun i => (i.zero, i.size, i.bytes)) = some (some z, size, bytes)) (hzs : z.cells.size = size) (hby : 0 < bytes)
    (hlen : ∀ w, (Builtin.lenOf y).run P w = .ok m w) (hcells : ∀ w'' : World, w''.heap = w.heap → (Builtin.firstCells size m y).run P w'' = .ok news.toArray w'')
    (hl : news.length = m * size) (h1 : ∀ u ∈ news, one1 u = true) (hown : Owns w base e size v n xs) (hbase : base ≤ w.heap.size) (hroom : (n + m) * bytes ≤ 140737488355328) :
    ∃ v' w', (Builtin.append_ #[T, U] ty #[v, y]).run P w = .ok v' w' ∧ Owns w' base e size v' (n + m) (xs ++ news) ∧ Ch (ownB v) w w' ∧ ((∀ k, ownB v' k → w.heap.size ≤ k) ∧ Ch No w w' ∨ ∃ b cap cs, v = .slice (some ⟨b, 0, none⟩) n cap ∧ Blk w b e cs ∧ v' = .slice (some ⟨b, 0, none⟩) (n + m) cap ∧ Blk w' b e (setMany cs (n * size) news)) := by
  obtain ⟨i, hi, hz, hs, hbt⟩ := info3 hinfo
  subst hs; subst hbt
  have hnm : n + m ≤ 140737488355328 := Nat.le_trans (Nat.le_mul_of_pos_right _ hby) hroom
  have hzero : ∀ w, (zeroValue e).run P w = .ok z w := fun w => by simp [zeroValue, typeInfo, hi, hz]
  have hlenx : (xs ++ news).length = (n + m) * i.size := by rw [List.length_append, hown.1, hl, Nat.add_mul]
  -- the slice as it stands: its place, its room
  have grow : ∀ (bs : Option Addr) (cap : Nat), v = .slice bs n cap → cap < n + m → (∀ w'' : World, w''.heap = w.heap → (Builtin.firstCells i.size n v).run P w'' = .ok xs.toArray w'') →
      ∃ v' w', (Builtin.append_ #[T, U] ty #[v, y]).run P w = .ok v' w' ∧ Owns w' base e i.size v' (n + m) (xs ++ news) ∧ Ch (ownB v) w w' ∧ ((∀ k, ownB v' k → w.heap.size ≤ k) ∧ Ch No w w' ∨ ∃ b cap cs, v = .slice (some ⟨b, 0, none⟩) n cap ∧ Blk w b e cs ∧ v' = .slice (some ⟨b, 0, none⟩) (n + m) cap ∧ Blk w' b e (setMany cs (n * i.size) news)) := by
    intro bs cap hv hlt hold
    have hfit := growslice_fits hlt hroom
    have h1' : ¬ (n + m ≤ cap) := by omega
    have h2' : ¬ (281474976710656 < Builtin.nextslicecap (n + m) cap * i.bytes) := by omega
    have h3' : ¬ ((9223372036854775807 : Int) < (n : Int) + (m : Int)) := by omega
    have hb0 : ¬ (i.bytes = 0) := by omega
    have hge := grownCap_ge w (n + m) cap e
    have hle := grownCap_le_maxLen w (n + m) cap e (by unfold maxLen; omega)
    have hX := Blk.new w.drew e (xs.toArray ++ news.toArray ++ Builtin.zeroCells z.cells (grownCap w (n + m) cap e - (n + m))).toList
    rw [Array.toArray_toList] at hX
    refine ⟨.slice (some ⟨w.heap.size, 0, none⟩) (n + m) (grownCap w (n + m) cap e), w.drew.alloc (.cells (xs.toArray ++ news.toArray ++ Builtin.zeroCells z.cells (grownCap w (n + m) cap e - (n + m))) e), ?_, ?_, ?_, .inl ⟨fun k hk => ?_, ?_⟩⟩
    · subst hv
      have hold' := hold w.drew rfl
      have hnew' := hcells w.drew rfl
      rcases hdu with rfl | ⟨e', rfl⟩ <;> simp [Builtin.append_, run_underlying hT, run_underlying hU, sizeOf, typeInfo, hi, hlen, h1', h2', h3', hb0, Question.forced, hold', hnew', hzero, newRow, grownCap] <;> (congr 2; apply Array.ext'; simp)
    · refine ⟨hlenx, .inr ⟨w.heap.size, _, _, rfl, hbase, hX, ?_, hge, ?_, ?_⟩⟩
      · simp only [Array.toList_append, List.length_append, Array.length_toList, size_zeroCells, hzs, hown.1, hl, ← Nat.add_mul]
        congr 1; omega
      · unfold maxLen at hle; omega
      · rw [← hlenx]; simp only [Array.toList_append]; exact List.take_left
    · exact ⟨rfl, rfl, rfl, by simp, fun k hk _ => RowKit.Below.heap_alloc w.drew _ k hk⟩
    · have hk' : k = w.heap.size := hk; omega
    · exact ⟨rfl, rfl, rfl, by simp, fun k hk _ => RowKit.Below.heap_alloc w.drew _ k hk⟩
  rcases hown.2 with ⟨hv, rfl⟩ | ⟨b, cap, cs, hv, hbb, hB, hcl, hnc, hcm, htake⟩
  · have hx : xs = [] := List.eq_nil_of_length_eq_zero (by simpa using hown.1)
    subst hx
    by_cases hm : m = 0
    · subst hm
      have hn : news = [] := List.eq_nil_of_length_eq_zero (by simpa using hl)
      subst hn
      refine ⟨.slice none 0 0, w, ?_, Owns.nil _ _ _ _, Ch.refl w, .inl ⟨fun k hk => hk.elim, Ch.refl w⟩⟩
      subst hv
      have hnew := hcells w rfl
      rcases hdu with rfl | ⟨e', rfl⟩ <;> simp [Builtin.append_, run_underlying hT, run_underlying hU, sizeOf, typeInfo, hi, hlen, hnew]
    · exact grow none 0 hv (by omega) (fun w'' _ => by subst hv; simp [Builtin.firstCells])
  · by_cases hroom' : n + m ≤ cap
    · have hfit : n * i.size + news.length ≤ cs.length := by rw [hl, hcl, ← Nat.add_mul]; exact Nat.mul_le_mul_right _ hroom'
      obtain ⟨w', hr, hch, hb⟩ := run_storeCells (P := P) news cs 0 (n * i.size) w hB (by simpa using hfit) h1
      refine ⟨.slice (some ⟨b, 0, none⟩) (n + m) cap, w', ?_, ⟨hlenx, .inr ⟨b, cap, _, rfl, hbb, hb, by rw [length_setMany]; exact hcl, hroom', hcm, ?_⟩⟩, ?_, .inr ⟨b, cap, cs, hv, hB, rfl, hb⟩⟩
      · subst hv
        have hnew := hcells w rfl
        rcases hdu with rfl | ⟨e', rfl⟩ <;> simp [Builtin.append_, run_underlying hT, run_underlying hU, sizeOf, typeInfo, hi, hlen, hroom', hnew, add_none, hr]
      · rw [← htake, show (n + m) * i.size = n * i.size + 0 + news.length from by rw [hl, Nat.add_mul]; omega]
        simpa using setMany_take news cs (n * i.size) hfit
      · subst hv; exact hch
    · refine grow (some ⟨b, 0, none⟩) cap hv (by omega) (fun w'' hw => ?_)
      subst hv
      have hBw : Blk w'' b e cs := by obtain ⟨fz, h, hz⟩ := hB; exact ⟨fz, by rw [hw]; exact h, hz⟩
      have := run_loadCells (P := P) hBw (n * i.size) 0 0 #[] (by rw [hcl, Nat.zero_add]; simpa using Nat.mul_le_mul_right _ hnc)
      simpa [Builtin.firstCells, loadCells, htake] using this
theorem run_append {T U e ty : TypeId} {du : TypeDesc} {base n m size bytes : Nat} {z v y : Value} {xs news : List Value} (hT : P.underlying T = some (.slice e)) (hU : P.underlying U = some du) (hdu : du = .string ∨ ∃ e', du = .slice e')
    (hinfo : (P.info? e).map (fun i => (i.zero, i.size, i.bytes)) = some (some z, size, bytes)) (hzs : z.cells.size = size) (hby : 0 < bytes)
    (hlen : ∀ w, (Builtin.lenOf y).run P w = .ok m w) (hcells : ∀ w'' : World, w''.heap = w.heap → (Builtin.firstCells size m y).run P w'' = .ok news.toArray w'')
    (hl : news.length = m * size) (h1 : ∀ u ∈ news, one1 u = true) (hown : Owns w base e size v n xs) (hbase : base ≤ w.heap.size) (hroom : (n + m) * bytes ≤ 140737488355328) :
    ∃ v' w', (Builtin.append_ #[T, U] ty #[v, y]).run P w = .ok v' w' ∧ Owns w' base e size v' (n + m) (xs ++ news) ∧ Ch (ownB v) w w' := by
  obtain ⟨v', w', h1, h2, h3, _⟩ := run_append2 (P := P) (ty := ty) hT hU hdu hinfo hzs hby hlen hcells hl h1 hown hbase hroom
  exact ⟨v', w', h1, h2, h3⟩
/-- What a second argument of append holds. -/
theorem lenOf_slice {a : Option Addr} {m c : Nat} (w : World) : (Builtin.lenOf (.slice a m c)).run P w = .ok m w := by simp [Builtin.lenOf]
theorem lenOf_string {s : ByteArray} (w : World) : (Builtin.lenOf (.string s)).run P w = .ok s.size w := by simp [Builtin.lenOf]
def bv (c : UInt8) : Value := .int .u8 (c.toNat : Int)
theorem firstCells_string {s : ByteArray} (w : World) : (Builtin.firstCells 1 s.size (.string s)).run P w = .ok (s.data.toList.map bv).toArray w := by
  simp [Builtin.firstCells]
  apply Array.ext'
  simp; intro _ _; rfl
theorem run_loadAt {b o : Nat} (news : List Value) : ∀ (m i : Nat) (acc : Array Value), i + m = news.length → (∀ j u, news[j]? = some u → w.cell? ⟨b, o + j, none⟩ = some u) → (loadCellsFrom ⟨b, o, none⟩ i m acc).run P w = .ok (acc ++ (news.drop i).toArray) w
  | 0, i, acc, h, hc => by
    have : news.drop i = [] := List.drop_eq_nil_of_le (by omega)
    simp [loadCellsFrom, this]
  | m + 1, i, acc, h, hc => by
    have hi : i < news.length := by omega
    have hcell := hc i _ (List.getElem?_eq_getElem hi)
    have ih := run_loadAt news m (i + 1) (acc.push news[i]) (by omega) hc
    simp only [loadCellsFrom, add_none, Sem.run_bind, Go.load, Sem.run, hcell, Result.andThen_ok, ih]
    congr 1
    rw [List.drop_eq_getElem_cons hi]
    simp
theorem firstCells_slice {b o m c size : Nat} {news : List Value} (hl : news.length = m * size) (hc : ∀ j u, news[j]? = some u → w.cell? ⟨b, o + j, none⟩ = some u) : (Builtin.firstCells size m (.slice (some ⟨b, o, none⟩) m c)).run P w = .ok news.toArray w := by
  have := run_loadAt (P := P) (w := w) news (m * size) 0 #[] (by omega) hc
  simpa [Builtin.firstCells, loadCells] using this
theorem firstCells_nil {c size : Nat} (w : World) : (Builtin.firstCells size 0 (.slice none 0 c)).run P w = .ok ([] : List Value).toArray w := by simp [Builtin.firstCells]
end
section
variable {P : Program} {n : Nat} {ds : List Deferred} {ops : Array Oper} {Q : Exit → Act → World → Prop} {l : Fr} {w : World} {rest : List Oper}
/-- append(s, x..), s of the call's own, x a slice whose cells are known. -/
theorem JL.append {d : Nat} {T U e ty : TypeId} {pos : String} {af : Array Edge} {x y : Operand} {base nn m c size bytes b o : Nat} {z v : Value} {xs news : List Value} (hd : Nat.blt d n = true)
    (hT : P.underlying T = some (.slice e)) (hU : P.underlying U = some (.slice e)) (hinfo : (P.info? e).map (fun i => (i.zero, i.size, i.bytes)) = some (some z, size, bytes)) (hzs : z.cells.size = size) (hby : 0 < bytes)
    (hx : Ev l x v) (hown : Owns w base e size v nn xs) (hy : Ev l y (.slice (some ⟨b, o, none⟩) m c)) (hl : news.length = m * size) (hc : ∀ j u, news[j]? = some u → w.cell? ⟨b, o + j, none⟩ = some u) (h1 : ∀ u ∈ news, one1 u = true)
    (hbase : base ≤ w.heap.size) (hroom : (nn + m) * bytes ≤ 140737488355328)
    (k : ∀ v' w', Owns w' base e size v' (nn + m) (xs ++ news) → Ch (ownB v) w w' → JL P n ds ops Q rest ((d, v') :: l) w') :
    JL P n ds ops Q (⟨some d, .call ⟨.builtin .append, #[x, y], #[T, U]⟩, ty, pos, af, none⟩ :: rest) l w := by
  obtain ⟨v', w', hr, ho, hch⟩ := run_append (P := P) (w := w) (ty := ty) hT hU (.inr ⟨e, rfl⟩) hinfo hzs hby (fun w => lenOf_slice (a := some ⟨b, o, none⟩) (m := m) (c := c) w)
    (fun w'' hw => firstCells_slice hl (fun j u hj => by have := hc j u hj; simp only [World.cell?, hw] at this ⊢; exact this)) hl h1 hown hbase hroom
  exact JL.val hd (fun a ha _ _ _ _ => by simp [execOp, resolve, invoke, builtin, hx.eq ha, hy.eq ha, hr]) (k v' w' ho hch)
/-- the same, of one element in a block of its own. -/
theorem JL.append1 {d : Nat} {T U e ty TB : TypeId} {pos : String} {af : Array Edge} {x y : Operand} {base nn size bytes b m c : Nat} {z v : Value} {xs news : List Value} (hd : Nat.blt d n = true)
    (hT : P.underlying T = some (.slice e)) (hU : P.underlying U = some (.slice e)) (hinfo : (P.info? e).map (fun i => (i.zero, i.size, i.bytes)) = some (some z, size, bytes)) (hzs : z.cells.size = size) (hby : 0 < bytes)
    (hx : Ev l x v) (hown : Owns w base e size v nn xs) (hy : Ev l y (.slice (some ⟨b, 0, none⟩) m c)) (hB : Blk w b TB news) (hl : news.length = m * size) (h1 : news.all one1 = true)
    (hbase : base ≤ w.heap.size) (hroom : (nn + m) * bytes ≤ 140737488355328)
    (k : ∀ v' w', Owns w' base e size v' (nn + m) (xs ++ news) → Ch (ownB v) w w' → JL P n ds ops Q rest ((d, v') :: l) w') :
    JL P n ds ops Q (⟨some d, .call ⟨.builtin .append, #[x, y], #[T, U]⟩, ty, pos, af, none⟩ :: rest) l w :=
  JL.append hd hT hU hinfo hzs hby hx hown hy hl (fun j u hj => by rw [Nat.zero_add]; exact hB.cell hj) (fun u hu => List.all_eq_true.1 h1 u hu) hbase hroom k

theorem JL.mk {d : Nat} {T e ty : TypeId} {pos : String} {af : Array Edge} {x y : Operand} {u v : Value} {nn c : Nat} {cs : List Value} (hd : Nat.blt d n = true) (hx : Ev l x u) (hy : Ev l y v)
    (h : (Instr.makeSlice T u v).run P w = .ok (.slice (some ⟨w.heap.size, 0, none⟩) nn c) (w.alloc (.cells cs.toArray e)))
    (k : ∀ b w', w.heap.size ≤ b → Ch No w w' → Blk w' b e cs → JL P n ds ops Q rest ((d, .slice (some ⟨b, 0, none⟩) nn c) :: l) w') :
    JL P n ds ops Q (⟨some d, .makeSlice T x y, ty, pos, af, none⟩ :: rest) l w :=
  JL.val hd (fun a ha _ _ _ _ => by simp [execOp, hx.eq ha, hy.eq ha, h]) (k _ _ (Nat.le_refl _) (Ch.alloc w _) (Blk.new w e cs))

/-- A slice's literal of elements of one cell. -/
theorem fill1 : ∀ (vs : List Value) (cells : List Value) (i : Nat), i + vs.length ≤ cells.length → (∀ v ∈ vs, v.cells = #[v]) →
    Instr.fill (fun i => some (i * 1, 1)) cells.toArray ((vs.zipIdx i).map fun (v, j) => (j, v)) = some (setMany cells i vs).toArray
  | [], cells, i, h, hv => by simp [Instr.fill, setMany]
  | v :: r, cells, i, h, hv => by
    have hc := hv v (by simp)
    have ih := fill1 r (cells.set i v) (i + 1) (by simp at h ⊢; omega) (fun u hu => hv u (by simp [hu]))
    have h2 : ¬ (cells.length < i + 1) := by simp at h; omega
    simp only [List.zipIdx_cons, List.map_cons, Instr.fill, hc, Nat.mul_one]
    simp [h2]
    simpa [setMany] using ih
theorem JL.lit {d : Nat} {T e ty : TypeId} {pos : String} {af : Array Edge} {xs : List (Nat × Operand)} {os : List Operand} {vs : List Value} {len : Nat} {z : Value} (hd : Nat.blt d n = true) (hT : P.underlying T = some (.slice e)) (hz : (sizeOf e).run P w = .ok 1 w)
    (hzero : (zeroValue e).run P w = .ok z w) (hzc : z.cells.size = 1) (hlen : len = vs.length) (h0 : Nat.blt 0 vs.length = true) (hs : Nat.ble vs.length 16777216 = true) (ho : xs = os.zipIdx.map fun (o, j) => (j, o)) (he : Evs l os vs) (hv : ∀ v ∈ vs, v.cells = #[v])
    (k : ∀ b w', w.heap.size ≤ b → Ch No w w' → Blk w' b e vs → JL P n ds ops Q rest ((d, .slice (some ⟨b, 0, none⟩) len len) :: l) w') :
    JL P n ds ops Q (⟨some d, .buildSlice T len xs.toArray, ty, pos, af, none⟩ :: rest) l w := by
  subst hlen; subst ho
  have h0 : 0 < vs.length := by simpa [Nat.blt_eq] using h0
  have hs := Nat.le_of_ble_eq_true hs
  refine JL.val hd (w' := w.alloc (.cells vs.toArray e)) (fun a ha _ _ _ _ => ?_) (k _ _ (Nat.le_refl _) (Ch.alloc w _) (Blk.new w e vs))
  have hm : ((os.zipIdx.map fun (o, j) => (j, o)).map fun (i, x) => (i, a.eval x)) = (vs.zipIdx.map fun (v, j) => (j, v)) := by
    rw [← he.eq ha]
    simp [List.zipIdx_map, List.map_map, Function.comp_def]
  have hf := fill1 vs (List.replicate vs.length (z.cells[0]!)) 0 (by simp) hv
  have hset : setMany (List.replicate vs.length (z.cells[0]!)) 0 vs = vs := by
    have := setMany_take vs (List.replicate vs.length (z.cells[0]!)) 0 (by simp)
    rw [Nat.zero_add, List.take_of_length_le (by rw [length_setMany]; simp)] at this
    simpa using this
  have hz0 : (Array.map (fun i => z.cells[i % z.cells.size]!) (Array.range (vs.length * 1))) = (List.replicate vs.length (z.cells[0]!)).toArray := by
    apply Array.ext'
    simp [hzc, Nat.mod_one]
    rw [List.map_const', List.length_range]
  have h1 : ¬ (16777216 < vs.length) := by omega
  have h2 : ¬ (vs.length = 0) := by omega
  rw [hset] at hf
  simp only [execOp, Instr.buildSlice, List.map_toArray, hm]
  rw [Nat.mul_one] at hz0
  have hf' : Instr.fill (fun i => some (i, 1)) (Array.map (fun x => z.cells[x % z.cells.size]!) (Array.range vs.length)) (List.map (fun x => (x.snd, x.fst)) vs.zipIdx) = some vs.toArray := by
    rw [hz0]; simpa using hf
  simp [run_underlying hT, hz, hzero, h1, h2, newRow, hf']
end
end Go.Proofs.YtodeldmdbeocfaaGreatDoor.Eng
