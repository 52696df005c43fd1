/- The engine, sixth part: slices and strings of bytes as lists. -/
import Derived.Test.YtodeldmdbeocfaaGreatDoorEngAny
namespace Go.Proofs.YtodeldmdbeocfaaGreatDoor.Eng
open Go
set_option linter.unusedVariables false
set_option linter.unusedSimpArgs false

/-- A slice that reads as these bytes. -/
def SlB (w : World) (v : Value) (l : List UInt8) : Prop :=
  (v = .slice none 0 0 ∧ l = []) ∨ ∃ b o s cap, v = .slice (some ⟨b, o, s⟩) l.length cap ∧ l.length ≤ cap ∧ cap ≤ 9223372036854775807 ∧ (l ≠ [] → s = none) ∧ Bs w b o l
theorem SlB.no {w w' : World} {v : Value} {l : List UInt8} (h : SlB w v l) (hc : Ch No w w') : SlB w' v l := by
  rcases h with h | ⟨b, o, s, cap, hv, h1, h2, hs, hb⟩
  · exact .inl h
  · exact .inr ⟨b, o, s, cap, hv, h1, h2, hs, hb.no hc⟩
theorem SlB.ofOwns {w : World} {base n : Nat} {T : TypeId} {v : Value} {l : List UInt8} (h : Owns w base T 1 v n (l.map bv)) : SlB w v l := by
  have hl : l.length = n := by have := h.1; simp at this; omega
  rcases h.2 with ⟨hv, hn⟩ | ⟨b, cap, cs, hv, hb, hB, hcl, hnc, hcm, ht⟩
  · exact .inl ⟨hv, List.eq_nil_of_length_eq_zero (by omega)⟩
  · refine .inr ⟨b, 0, none, cap, by rw [hv, hl], by omega, by omega, fun _ => rfl, ?_⟩
    subst hv
    exact Bs.ofOwns h
theorem SlB.ofBs {w : World} {b o len cap : Nat} {l : List UInt8} (h : Bs w b o l) (hl : l.length = len) (h1 : len ≤ cap) (h2 : cap ≤ 9223372036854775807) : SlB w (.slice (some ⟨b, o, none⟩) len cap) l := by
  subst hl; exact .inr ⟨b, o, none, cap, rfl, h1, h2, fun _ => rfl, h⟩
theorem Ch.cell {w w' : World} {p : Addr} {v : Value} (h : Ch No w w') (hc : w.cell? p = some v) : w'.cell? p = some v := by
  rw [World.cell?_of_block (w := w) (h.block _ (World.block_lt_of_cell? w _ hc) id)]; exact hc
theorem Owns.some {w : World} {base n : Nat} {T : TypeId} {sz : Nat} {v : Value} {xs : List Value} (h : Owns w base T sz v n xs) (h0 : 0 < n) : ∃ b cap, v = .slice (some ⟨b, 0, none⟩) n cap ∧ n ≤ cap ∧ cap ≤ 9223372036854775807 ∧ base ≤ b ∧ b < w.heap.size := by
  rcases h.2 with ⟨_, hn⟩ | ⟨b, cap, cs, hv, hb, hB, _, h1, h2, _⟩
  · omega
  · exact ⟨b, cap, hv, h1, h2, hb, hB.lt⟩
theorem SlB.ofBlk {w : World} {b n cap : Nat} {T : TypeId} {l : List UInt8} (h : Blk w b T (l.map bv)) (hl : l.length = n) (h1 : n ≤ cap) (h2 : cap ≤ 9223372036854775807) : SlB w (.slice (some ⟨b, 0, none⟩) n cap) l :=
  SlB.ofBs (fun j c hj => by rw [Nat.zero_add]; exact h.cell (by simp [hj])) hl h1 h2
theorem SlB.len {w : World} {v : Value} {l : List UInt8} (h : SlB w v l) : l.length ≤ 9223372036854775807 := by
  rcases h with ⟨_, rfl⟩ | ⟨b, o, s, cap, hv, h1, h2, hs, hb⟩
  · simp
  · omega
theorem SlB.slice {w : World} {v : Value} {l : List UInt8} (h : SlB w v l) : ∃ a cap, v = .slice a l.length cap := by
  rcases h with ⟨hv, rfl⟩ | ⟨b, o, s, cap, hv, _⟩
  · exact ⟨none, 0, hv⟩
  · exact ⟨_, _, hv⟩

/-- What append takes its cells from. -/
def Src (P : Program) (w : World) (y : Value) (m size : Nat) (news : List Value) : Prop :=
  (∀ w, (Builtin.lenOf y).run P w = .ok m w) ∧ ∀ w'' : World, w''.heap = w.heap → (Builtin.firstCells size m y).run P w'' = .ok news.toArray w''
section
variable {P : Program} {w : World}
theorem Bs.heap {w w' : World} {b o : Nat} {l : List UInt8} (h : Bs w b o l) (hw : w'.heap = w.heap) : Bs w' b o l := fun j c hj => by
  have := h j c hj; simp only [World.cell?, hw] at this ⊢; exact this
theorem Src.ofSlB {v : Value} {l : List UInt8} (h : SlB w v l) : Src P w v l.length 1 (l.map bv) := by
  rcases h with ⟨rfl, rfl⟩ | ⟨b, o, s, cap, rfl, h1, h2, hs, hb⟩
  · exact ⟨fun w => lenOf_slice w, fun w'' _ => firstCells_nil w''⟩
  · refine ⟨fun w => lenOf_slice w, fun w'' hw => ?_⟩
    by_cases hl : l = []
    · subst hl; simp [Builtin.firstCells, loadCells, loadCellsFrom]
    · obtain rfl := hs hl
      exact firstCells_slice (by simp) (fun j u hj => by
        rw [List.getElem?_map] at hj
        cases hc : l[j]? with
        | none => rw [hc] at hj; cases hj
        | some c => rw [hc] at hj; simp at hj; subst hj; exact (hb.heap hw) j c hc)
theorem Src.ofString {s : ByteArray} : Src P w (.string s) s.size 1 (s.data.toList.map bv) := ⟨fun w => lenOf_string w, fun w'' _ => firstCells_string w''⟩
theorem Src.ofBlk {b n : Nat} {T : TypeId} {cs : List Value} {c : Nat} (hB : Blk w b T cs) {size : Nat} (hl : cs.length = n * size) : Src P w (.slice (some ⟨b, 0, none⟩) n c) n size cs :=
  ⟨fun w => lenOf_slice w, fun w'' hw => firstCells_slice hl (fun j u hj => by
    have hB' : Blk w'' b T cs := by obtain ⟨fz, h, hz⟩ := hB; exact ⟨fz, by rw [hw]; exact h, hz⟩
    rw [Nat.zero_add]; exact hB'.cell hj)⟩
theorem bv_one (l : List UInt8) : ∀ u ∈ l.map bv, one1 u = true := by intro u hu; obtain ⟨c, _, rfl⟩ := List.mem_map.1 hu; rfl

/-- a string out of bytes -/
def str (l : List UInt8) : ByteArray := ⟨l.toArray⟩
theorem str_size (l : List UInt8) : (str l).size = l.length := rfl
theorem str_list (l : List UInt8) : (str l).toList = l := by rw [ByteArray.toList_eq]; simp [str]
theorem str_eq (a b : List UInt8) : ((str a).toList == (str b).toList) = decide (a = b) := by rw [str_list, str_list, Bool.eq_iff_iff, decide_eq_true_iff, beq_iff_eq]
theorem str_of (s : ByteArray) : str s.data.toList = s := by simp [str]
end
section
variable {P : Program} {n : Nat} {ds : List Deferred} {ops : Array Oper} {Q : Exit → Act → World → Prop} {l : Fr} {w : World} {rest : List Oper}
theorem JL.appendS {d : Nat} {T U e ty : TypeId} {pos : String} {af : Array Edge} {x y : Operand} {du : TypeDesc} {base nn m size bytes : Nat} {z v vy : Value} {xs news : List Value} (hd : Nat.blt d n = true)
    (hT : P.underlying T = some (.slice e)) (hU : P.underlying U = some du) (hdu : du = .string ∨ ∃ e', du = .slice e') (hinfo : (P.info? e).map (fun i => (i.zero, i.size, i.bytes)) = some (some z, size, bytes)) (hzs : z.cells.size = size) (hby : 0 < bytes)
    (hx : Ev l x v) (hown : Owns w base e size v nn xs) (hy : Ev l y vy) (hS : Src P w vy m size news) (hl : news.length = m * size) (h1 : ∀ u ∈ news, one1 u = true)
    (hbase : base ≤ w.heap.size) (hroom : (nn + m) * bytes ≤ 140737488355328)
    (k : ∀ v' w', Owns w' base e size v' (nn + m) (xs ++ news) → Ch (ownB v) w w' → JL P n ds ops Q rest ((d, v') :: l) w') :
    JL P n ds ops Q (⟨some d, .call ⟨.builtin .append, #[x, y], #[T, U]⟩, ty, pos, af, none⟩ :: rest) l w := by
  obtain ⟨v', w', hr, ho, hch⟩ := run_append (P := P) (w := w) (ty := ty) hT hU hdu hinfo hzs hby hS.1 hS.2 hl h1 hown hbase hroom
  exact JL.val hd (fun a ha _ _ _ _ => by simp [execOp, resolve, invoke, builtin, hx.eq ha, hy.eq ha, hr]) (k v' w' ho hch)
theorem JL.lit0 {d : Nat} {T e ty : TypeId} {pos : String} {af : Array Edge} (hd : Nat.blt d n = true) (hT : P.underlying T = some (.slice e)) {sz : Nat} (hz : (sizeOf e).run P w = .ok sz w)
    (k : ∀ b w', w.heap.size ≤ b → Ch No w w' → Blk w' b e [] → JL P n ds ops Q rest ((d, .slice (some ⟨b, 0, none⟩) 0 0) :: l) w') :
    JL P n ds ops Q (⟨some d, .buildSlice T 0 #[], ty, pos, af, none⟩ :: rest) l w :=
  JL.val hd (w' := w.alloc (.cells #[] e)) (fun a ha _ _ _ _ => by simp [execOp, Instr.buildSlice, run_underlying hT, hz, newRow, Instr.fill]; congr 2; apply Array.ext'; simp) (k _ _ (Nat.le_refl _) (Ch.alloc w _) (Blk.new w e []))
theorem Run.bytesStr {s d e : TypeId} {x : Operand} {v : Value} {ty : TypeId} {bs : List UInt8} (hs : P.underlying s = some (.slice e)) (hd : P.underlying d = some .string) (he : P.underlying e = some (.int .u8)) (hx : Ev l x v) (h : SlB w v bs) : Run P l (.convert s d x) ty w (.ok (.value (.string (str bs))) w) := fun a ha _ _ _ _ => by
  rcases h with ⟨rfl, rfl⟩ | ⟨b, o, sp, cap, rfl, h1, h2, hsp, hb⟩
  · simp [execOp, hx.eq ha, convert, run_underlying hs, run_underlying hd, run_underlying he, Conv.bytesToString, str]; rfl
  · have hr := run_convert_bytes_back (P := P) w s d e ⟨b, o, sp⟩ cap bs hs he hd (fun j hj => by
      have hne : bs ≠ [] := fun h => by subst h; simp at hj
      obtain rfl := hsp hne
      rw [add_none]; exact hb j _ (List.getElem?_eq_getElem hj))
    simp [execOp, hx.eq ha, hr, str]
theorem Run.eqS {T U : TypeId} {x y : Operand} {ty : TypeId} {s t : List UInt8} (hx : Ev l x (.string (str s))) (hy : Ev l y (.string (str t))) : Run P l (.binOp .eql T x y U) ty w (.ok (.value (.bool (decide (s = t)))) w) := Run.bin hx hy rfl (by simp [binOp, Op.stringOp, str_list, Bool.beq_eq_decide_eq])
theorem Run.neS {T U : TypeId} {x y : Operand} {ty : TypeId} {s t : List UInt8} (hx : Ev l x (.string (str s))) (hy : Ev l y (.string (str t))) : Run P l (.binOp .neq T x y U) ty w (.ok (.value (.bool (!decide (s = t)))) w) := Run.bin hx hy rfl (by simp [binOp, Op.stringOp, str_list, Bool.beq_eq_decide_eq])
end
end Go.Proofs.YtodeldmdbeocfaaGreatDoor.Eng
