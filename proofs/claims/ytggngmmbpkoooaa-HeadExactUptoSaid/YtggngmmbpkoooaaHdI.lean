/- What the statements lend to the program and look at behind the call: bytes with marks in the spare room. For every input. -/
import Derived.Test.YtggngmmbpkoooaaHdB
namespace Go.Proofs.Ytggngmmbpkoooaa.Hd
open Go Go.Proofs.Ytggngmmbpkoooaa.Eng
set_option linter.unusedVariables false
set_option linter.unusedSimpArgs false
set_option maxRecDepth 4000
def marksL (k : Nat) : List UInt8 := (List.range k).map fun j : Nat => u8 (165 - (j : Int))
theorem marksL_len (k : Nat) : (marksL k).length = k := by simp [marksL]
theorem marksL_succ (k : Nat) : marksL (k + 1) = marksL k ++ [u8 (165 - (k : Int))] := by simp [marksL, List.range_succ]
theorem marksL_get {i : Nat} (h : i < 70) : ((marksL 70)[i]?).map bv = some (.int .u8 (165 - (i : Int))) := by
  simp only [marksL, List.getElem?_map, List.getElem?_range h, Option.map_some]
  rw [bv, u8_toNat (by omega) (by omega)]
/-- What was lent: these bytes at the head of a block of its own, the marks behind them. -/
def Lent (w : World) (b cap : Nat) (l : List UInt8) : Prop := l.length + 70 ≤ cap ∧ cap ≤ 9223372036854775807 ∧ ∃ cs, Blk w b 5 cs ∧ cs.length = cap ∧ cs.take (l.length + 70) = (l ++ marksL 70).map bv
theorem lent_no {w w' : World} {b cap : Nat} {l : List UInt8} (h : Lent w b cap l) (hc : Ch No w w') : Lent w' b cap l := by
  obtain ⟨h1, h2, cs, hB, h3, h4⟩ := h
  exact ⟨h1, h2, cs, hB.no hc, h3, h4⟩
theorem _root_.Go.Proofs.Ytggngmmbpkoooaa.Hd.Lent.no {w w' : World} {b cap : Nat} {l : List UInt8} (h : Lent w b cap l) (hc : Ch No w w') : Lent w' b cap l := lent_no h hc
theorem lent_cell {w : World} {b cap : Nat} {l : List UInt8} (h : Lent w b cap l) {j : Nat} {v : Value} (hj : ((l ++ marksL 70).map bv)[j]? = some v) : w.cell? ⟨b, j, none⟩ = some v := by
  obtain ⟨h1, h2, cs, hB, h3, h4⟩ := h
  rw [← h4, List.getElem?_take] at hj
  split at hj
  · exact hB.cell hj
  · cases hj
theorem lent_slb {w : World} {b cap : Nat} {l : List UInt8} (h : Lent w b cap l) : SlB w (.slice (some ⟨b, 0, none⟩) l.length cap) l :=
  SlB.ofBs (fun j c hj => by
    rw [Nat.zero_add]
    refine lent_cell h ?_
    have hjl : j < l.length := (List.getElem?_eq_some_iff.1 hj).1
    rw [List.getElem?_map, List.getElem?_append_left hjl, hj]; rfl) rfl (by have := h.1; omega) h.2.1
theorem lent_mark {w : World} {b cap : Nat} {l : List UInt8} (h : Lent w b cap l) {i p : Nat} (hi : i < 70) (hp : p = l.length + i) : w.cell? ⟨b, p, none⟩ = some (.int .u8 (165 - (i : Int))) := by
  subst hp
  refine lent_cell h ?_
  rw [List.getElem?_map, List.getElem?_append_right (by omega), Nat.add_sub_cancel_left]
  exact marksL_get hi
theorem lent_owns {w : World} {base b cap : Nat} {l : List UInt8} (hO : Owns w base 5 1 (.slice (some ⟨b, 0, none⟩) (l.length + 70) cap) (l.length + 70) ((l ++ marksL 70).map bv)) : Lent w b cap l := by
  rcases hO.2 with ⟨hv, _⟩ | ⟨b', cap', cs, hv, hb, hB, hl, h1, h2, ht⟩
  · cases hv
  · cases hv
    exact ⟨h1, h2, cs, hB, by omega, by simpa using ht⟩
theorem lent_set {w' : World} {b cap t : Nat} {l : List UInt8} {cs : List Value} {x : UInt8} (h1 : l.length + 70 ≤ cap) (h2 : cap ≤ 9223372036854775807) (hB : Blk w' b 5 (cs.set t (bv x))) (h3 : cs.length = cap) (h4 : cs.take (l.length + 70) = (l ++ marksL 70).map bv) (ht : t < l.length) : Lent w' b cap (l.set t x) := by
  refine ⟨by simpa using h1, h2, _, hB, by simpa using h3, ?_⟩
  rw [List.length_set, List.take_set, h4, ← List.map_set, List.set_append, if_pos ht]
theorem slb_pos {w : World} {a : Option Addr} {n cap : Nat} {l : List UInt8} (h : SlB w (.slice a n cap) l) (h0 : 0 < l.length) : ∃ b o, a = some ⟨b, o, none⟩ ∧ n = l.length ∧ l.length ≤ cap ∧ cap ≤ 9223372036854775807 ∧ Bs w b o l := by
  rcases h with ⟨hv, rfl⟩ | ⟨b, o, s, cap', hv, h1, h2, hs, hb⟩
  · simp at h0
  · cases hv
    obtain rfl := hs (fun h => by subst h; simp at h0)
    exact ⟨b, o, rfl, rfl, h1, h2, hb⟩
theorem xor_byte (c : UInt8) : ∃ y : UInt8, bits .xor .u8 (c.toNat : Int) 1 = (y.toNat : Int) := by
  refine ⟨u8 (bits .xor .u8 (c.toNat : Int) 1), ?_⟩
  have h : ∃ z, bits .xor .u8 (c.toNat : Int) 1 = IntKind.u8.wrap z := ⟨_, rfl⟩
  obtain ⟨z, hz⟩ := h
  rw [hz, IntKind.wrap_u8, u8_toNat (by omega) (by omega)]

set_option maxHeartbeats 2000000 in
theorem lent_any {v : Value} {l : List UInt8} (w0 : World) (h : SlB w0 v l) (hl : l.length ≤ 140737488351232) :
    Calls Try.prog 12 #[v] w0 fun e w' => ∃ b cap, e = .returned (.slice (some ⟨b, 0, none⟩) l.length cap) ∧ Lent w' b cap l ∧ w0.heap.size ≤ b ∧ Ch No w0 w' := by
  have hK : Ch No w0 w0 := Ch.refl w0
  obtain ⟨a, cap, rfl⟩ := h.slice
  refine calls @Try.func12 rfl @Try.ntmps12 rfl ?_
  show JC _ _ _ _ _ [(0, .slice a l.length cap)] _
  refine JC.seq ?_
  refine JC.region ?_
  refine JL.val rfl (Run.assign .const) ?_
  refine JL.nil ?_
  refine JE.seq ?_
  refine JC.seq ?_
  refine JC.region ?_
  refine JL.val rfl (Run.move (.tmp (.there rfl .here))) ?_
  refine JL.val rfl (Run.len @Try.underlying53 (.tmp .here)) ?_
  refine JL.val rfl (Run.add (.tmp .here) .const (show IntKind.i64.wrap ((l.length : Int) + 70) = ((l.length + 70 : Nat) : Int) from (wrap_i64 (by omega)).trans (by simp))) ?_
  refine JL.mk rfl .const (.tmp .here) (run_mkB (c := l.length + 70) @Try.underlying53 info_u8 (by omega)) ?_
  intro b1 w2 hg3 hc4 Bb1
  have ge_b1 : _ ≤ b1 := Nat.le_trans hK.size hg3
  replace hK := hK.no hc4
  have hO : Owns _ w0.heap.size 5 1 (.slice (some ⟨b1, 0, none⟩) 0 (l.length + 70)) 0 [] := Owns.ofBlk (cs := List.replicate (l.length + 70) (.int .u8 0)) Bb1 ge_b1 (by simp) (by omega) (by omega)
  refine JL.val rfl (Run.assign (.tmp .here)) ?_
  refine JL.nil ?_
  refine JE.seq ?_
  refine JC.seq ?_
  refine JC.region ?_
  refine JL.val rfl (Run.move (.tmp .here)) ?_
  refine JL.val rfl (Run.move (.tmp (.there rfl (.there rfl (.there rfl (.there rfl (.there rfl (.there rfl (.there rfl .here))))))))) ?_
  refine JL.appendS rfl @Try.underlying53 @Try.underlying53 (.inr ⟨_, rfl⟩) info_u8 (by rfl) (by decide) (.tmp (.there rfl .here)) hO (.tmp .here) ((Src.ofSlB (h.no hK))) (by simp) (bv_one _) (hK.size) (by omega) ?_
  intro v5 w6 hO8 hc7
  replace hK := hK.ownv hO hc7 (by omega)
  replace hO := hO8; clear hO8
  rw [List.nil_append, Nat.zero_add] at hO
  have hO2 : Owns w6 w0.heap.size 5 1 v5 (l.length + 0) ((l ++ marksL 0).map bv) := by rw [show marksL 0 = [] from rfl, List.append_nil]; exact hO
  clear hO
  refine JL.val rfl (Run.assign (.tmp .here)) ?_
  refine JL.nil ?_
  refine JE.keep (L := _) (.cons .here (.cons (.there rfl (.there rfl (.there rfl (.there rfl (.there rfl (.there rfl (.there rfl (.there rfl (.there rfl .here))))))))) (.cons (.there rfl (.there rfl (.there rfl (.there rfl (.there rfl (.there rfl (.there rfl (.there rfl (.there rfl (.there rfl .here)))))))))) .nil))) ?_
  refine JE.seq ?_
  refine JC.seq ?_
  refine JC.seq ?_
  refine JC.region ?_
  refine JL.val rfl (Run.assign .const) ?_
  refine JL.nil ?_
  refine JE.seq ?_
  refine JC.block ?_
  refine JC.loop (α := Nat × Value) (fun ⟨i, v⟩ => [(0, .slice a l.length cap), (3, v), (4, .int .i64 (i : Int))]) (fun ⟨i, v⟩ w => i ≤ 70 ∧ Owns w w0.heap.size 5 1 v (l.length + i) ((l ++ marksL i).map bv) ∧ Ch No w0 w) (fun ⟨i, v⟩ => 70 - i) (0, _) ⟨by omega, hO2, hK⟩ (.cons (.there rfl (.there rfl (.there rfl .here))) (.cons (.there rfl .here) (.conse .here (rfl) .nil))) ?_
  rintro ⟨i, v⟩ w9 m10 ⟨hi, hO, hK⟩ hmu11
  show JC _ _ _ _ _ [(0, .slice a l.length cap), (3, v), (4, .int .i64 (i : Int))] _
  refine JC.seq ?_
  refine JC.seq ?_
  refine JC.region ?_
  refine JL.val rfl (Run.move (.tmp (.there rfl (.there rfl .here)))) ?_
  refine JL.val rfl (Run.lss (.tmp .here) .const) ?_
  refine JL.nil ?_
  refine JE.seq ?_
  refine JC.cond (.tmp .here) (fun h70 => ?_) (fun h70 => ?_)
  · have h70 := of_decide_eq_true h70
    refine JC.skip ?_
    refine JE.seq ?_
    refine JC.seq ?_
    refine JC.block ?_
    refine JC.region ?_
    refine JL.val rfl (Run.move (.tmp (.there rfl (.there rfl (.there rfl .here))))) ?_
    refine JL.val rfl (Run.move (.tmp (.there rfl (.there rfl (.there rfl (.there rfl (.there rfl .here))))))) ?_
    refine JL.call rfl (Run.call @Try.call29 (.cons (.tmp .here) .nil)) (mark_any _ (by omega) (by omega) _) ?_
    rintro e w9 ⟨rfl, rfl⟩
    refine JRet.ret ?_
    refine JL.lit (os := [.tmp 18]) rfl @Try.underlying53 (@Try.sizeOf5 _) (@Try.zeroValue5 _) (by rfl) (by rfl) rfl rfl (by rfl) (.cons (.tmp .here) .nil) (by simp [Value.cells]) ?_
    intro b12 w13 hg14 hc15 Bb12
    have ge_b12 : _ ≤ b12 := Nat.le_trans hK.size hg14
    replace hO := hO.no hc15
    replace hK := hK.no hc15
    refine JL.appendS rfl @Try.underlying53 @Try.underlying53 (.inr ⟨_, rfl⟩) info_u8 (by rfl) (by decide) (.tmp (.there rfl (.there rfl (.there rfl .here)))) hO (.tmp .here) ((Src.ofBlk Bb12 rfl)) (by simp) (by intro u hu; simp at hu; subst hu; rfl) (hK.size) (by omega) ?_
    intro v16 w17 hO19 hc18
    replace hK := hK.ownv hO hc18 (by omega)
    clear Bb12
    replace hO := hO19; clear hO19
    rw [one_bv (by omega) (by omega)] at hO
    have hO2 : Owns w17 w0.heap.size 5 1 v16 (l.length + (i + 1)) ((l ++ marksL (i + 1)).map bv) := by rw [← Nat.add_assoc, marksL_succ]; simpa using hO
    refine JL.val rfl (Run.assign (.tmp .here)) ?_
    refine JL.nil ?_
    refine JE.blk ?_
    refine JE.seq ?_
    refine JC.region ?_
    refine JL.val rfl (Run.move (.tmp (.there rfl (.there rfl (.there rfl (.there rfl (.there rfl (.there rfl (.there rfl (.there rfl (.there rfl (.there rfl .here)))))))))))) ?_
    refine JL.val rfl (Run.add (.tmp .here) .const (wrap_i64 (by omega))) ?_
    refine JL.val rfl (Run.assign (.tmp .here)) ?_
    refine JL.nil ?_
    exact JE.again (i + 1, v16) (.cons (.there rfl (.there rfl (.there rfl (.there rfl (.there rfl (.there rfl (.there rfl (.there rfl (.there rfl (.there rfl (.there rfl .here))))))))))) (.cons (.there rfl (.there rfl (.there rfl .here))) (.conse .here (rfl) .nil))) (⟨by omega, hO2, hK⟩) (by simp only [hmu11]; omega)
  · have h70 := of_decide_eq_false h70
    obtain rfl : i = 70 := by omega
    obtain ⟨lb, lcap, rfl, hl1, hl2, hl3, hl4⟩ := hO.some (by omega)
    refine JC.exit ?_
    refine JE.exit_seq ?_
    refine JE.exit_seq ?_
    refine JE.exit_here ?_
    refine JE.seq ?_
    refine JC.seq ?_
    refine JC.region ?_
    refine JL.val rfl (Run.move (.tmp (.there rfl (.there rfl (.there rfl .here))))) ?_
    refine JL.val rfl (Run.move (.tmp (.there rfl (.there rfl (.there rfl .here))))) ?_
    refine JL.val rfl (Run.len @Try.underlying53 (.tmp .here)) ?_
    refine JL.sliceS (L := 0) (H := l.length) (M := lcap) rfl @Try.underlying53 (@Try.sizeOf5 _) (.tmp (.there rfl (.there rfl .here))) (fun a ha => by simp only [Option.map, (show Ev _ _ _ from (.tmp .here)).eq ha]; exact bounds_h (by rfl) (by omega)) (by omega) ?_
    intro o1 ho1
    obtain rfl : o1 = 0 := by have := ho1 (by omega); omega
    refine JL.val rfl (Run.assign (.tmp .here)) ?_
    refine JL.nil ?_
    refine JE.keep (L := _) (.cons .here .nil) ?_
    refine JE.seq ?_
    refine JC.ret ?_
    refine JE.ret1 @Try.results12 .here ?_
    exact ⟨lb, lcap, rfl, lent_owns hO, hl3, hK⟩

set_option maxHeartbeats 2000000 in
theorem intact_any {lb cap : Nat} {b : Value} {l : List UInt8} (w0 : World) (hL : Lent w0 lb cap l) (hs : SlB w0 b l) :
    Calls Try.prog 14 #[.slice (some ⟨lb, 0, none⟩) l.length cap, b] w0 fun e w' => e = .returned (.bool true) ∧ Ch No w0 w' := by
  have hK : Ch No w0 w0 := Ch.refl w0
  have hc70 := hL.1
  have hcm := hL.2.1
  refine calls @Try.func14 rfl @Try.ntmps14 rfl ?_
  show JC _ _ _ _ _ [(0, .slice (some ⟨lb, 0, none⟩) l.length cap), (1, b)] _
  refine JC.seq ?_
  refine JC.region ?_
  refine JL.val rfl (Run.assign .const) ?_
  refine JL.nil ?_
  refine JE.seq ?_
  refine JC.seq ?_
  refine JC.seq ?_
  refine JC.region ?_
  refine JL.val rfl (Run.move (.tmp (.there rfl .here))) ?_
  refine JL.val rfl (Run.bytesStr @Try.underlying53 @Try.underlying9 @Try.underlying5 (.tmp .here) (lent_slb hL)) ?_
  refine JL.val rfl (Run.move (.tmp (.there rfl (.there rfl (.there rfl (.there rfl .here)))))) ?_
  refine JL.val rfl (Run.bytesStr @Try.underlying53 @Try.underlying9 @Try.underlying5 (.tmp .here) hs) ?_
  refine JL.val rfl (Run.neS (s := l) (t := l) (.tmp (.there rfl (.there rfl .here))) (.tmp .here)) ?_
  refine JL.nil ?_
  refine JE.seq ?_
  refine JC.condF (.tmp .here) (by simp) ?_
  refine JC.skip ?_
  refine JE.seq ?_
  refine JC.seq ?_
  refine JC.region ?_
  refine JL.val rfl (Run.move (.tmp (.there rfl (.there rfl (.there rfl (.there rfl (.there rfl (.there rfl .here)))))))) ?_
  refine JL.val rfl (Run.move (.tmp (.there rfl (.there rfl (.there rfl (.there rfl (.there rfl (.there rfl (.there rfl .here))))))))) ?_
  refine JL.val rfl (Run.len @Try.underlying53 (.tmp .here)) ?_
  refine JL.val rfl (Run.add (.tmp .here) .const (wrap_i64 (by omega))) ?_
  refine JL.sliceS (L := 0) (H := l.length + 70) (M := cap) rfl @Try.underlying53 (@Try.sizeOf5 _) (.tmp (.there rfl (.there rfl (.there rfl .here)))) (fun a ha => by simp only [Option.map, (show Ev _ _ _ from (.tmp .here)).eq ha]; exact bounds_h (H := l.length + 70) (by simp) hc70) (by omega) ?_
  intro o1 ho1
  obtain rfl : o1 = 0 := by have := ho1 (by omega); omega
  refine JL.val rfl (Run.assign (.tmp .here)) ?_
  refine JL.nil ?_
  refine JE.keep (L := _) (.cons .here (.cons (.there rfl (.there rfl (.there rfl (.there rfl (.there rfl (.there rfl (.there rfl (.there rfl (.there rfl (.there rfl (.there rfl .here))))))))))) (.cons (.there rfl (.there rfl (.there rfl (.there rfl (.there rfl (.there rfl (.there rfl (.there rfl (.there rfl (.there rfl (.there rfl (.there rfl .here)))))))))))) .nil))) ?_
  refine JE.seq ?_
  refine JC.seq ?_
  refine JC.seq ?_
  refine JC.region ?_
  refine JL.val rfl (Run.assign .const) ?_
  refine JL.nil ?_
  refine JE.seq ?_
  refine JC.block ?_
  refine JC.loop (α := Nat) (fun i => [(0, .slice (some ⟨lb, 0, none⟩) l.length cap), (5, .slice (some ⟨lb, 0, none⟩) (l.length + 70 - 0) (cap - 0)), (6, .int .i64 (i : Int))]) (fun i w => i ≤ 70 ∧ Lent w lb cap l ∧ Ch No w0 w) (fun i => 70 - i) 0 ⟨Nat.zero_le _, hL, hK⟩ (.cons (.there rfl (.there rfl (.there rfl .here))) (.cons (.there rfl .here) (.conse .here (rfl) .nil))) ?_
  rintro i w1 m2 ⟨hi, hL, hK⟩ hmu3
  show JC _ _ _ _ _ [(0, .slice (some ⟨lb, 0, none⟩) l.length cap), (5, .slice (some ⟨lb, 0, none⟩) (l.length + 70 - 0) (cap - 0)), (6, .int .i64 (i : Int))] _
  refine JC.seq ?_
  refine JC.seq ?_
  refine JC.region ?_
  refine JL.val rfl (Run.move (.tmp (.there rfl (.there rfl .here)))) ?_
  refine JL.val rfl (Run.lss (.tmp .here) .const) ?_
  refine JL.nil ?_
  refine JE.seq ?_
  refine JC.cond (.tmp .here) (fun h70 => ?_) (fun h70 => ?_)
  · have h70 := of_decide_eq_true h70
    refine JC.skip ?_
    refine JE.seq ?_
    refine JC.seq ?_
    refine JC.block ?_
    refine JC.seq ?_
    refine JC.stillc mixed (by kernel_rfl) ?_
    intro w4 hd5
    replace hL := hL.no hd5
    replace hK := hK.no hd5
    refine JS.val rfl (Run.move (.tmp (.there rfl (.there rfl (.there rfl .here))))) ?_
    refine JS.val rfl (Run.move (.tmp (.there rfl (.there rfl (.there rfl .here))))) ?_
    refine JS.val rfl (Run.len @Try.underlying53 (.tmp .here)) ?_
    refine JS.val rfl (Run.move (.tmp (.there rfl (.there rfl (.there rfl (.there rfl (.there rfl (.there rfl (.there rfl .here))))))))) ?_
    refine JS.val rfl (Run.add (.tmp (.there rfl .here)) (.tmp .here) (wrap_i64 (by omega))) ?_
    refine JS.val rfl (Run.indexAddr (m := l.length + i) @Try.underlying53 (@Try.sizeOf5 _) (.tmp (.there rfl (.there rfl (.there rfl (.there rfl .here))))) (.tmp .here) (by simp) (by omega) rfl) ?_
    refine JS.val rfl (Run.load (@Try.isAgg5 _) (.tmp .here) (by first | exact (lent_mark (i := i) hL (by omega) (by omega)))) ?_
    refine JS.val rfl (Run.move (.tmp (.there rfl (.there rfl (.there rfl (.there rfl (.there rfl (.there rfl (.there rfl (.there rfl (.there rfl (.there rfl (.there rfl .here))))))))))))) ?_
    refine JS.call rfl (Run.call @Try.call29 (.cons (.tmp .here) .nil)) (mark_any _ (by omega) (by omega) _) ?_
    refine JS.val rfl (Run.neq (.tmp (.there rfl (.there rfl .here))) (.tmp .here)) ?_
    refine JS.nil ?_
    refine JE.seq ?_
    refine JC.condF (.tmp .here) (by simp) ?_
    refine JC.skip ?_
    refine JE.blk ?_
    refine JE.seq ?_
    refine JC.region ?_
    refine JL.val rfl (Run.move (.tmp (.there rfl (.there rfl (.there rfl (.there rfl (.there rfl (.there rfl (.there rfl (.there rfl (.there rfl (.there rfl (.there rfl (.there rfl (.there rfl (.there rfl .here)))))))))))))))) ?_
    refine JL.val rfl (Run.add (.tmp .here) .const (wrap_i64 (by omega))) ?_
    refine JL.val rfl (Run.assign (.tmp .here)) ?_
    refine JL.nil ?_
    exact JE.again (i + 1) (.cons (.there rfl (.there rfl (.there rfl (.there rfl (.there rfl (.there rfl (.there rfl (.there rfl (.there rfl (.there rfl (.there rfl (.there rfl (.there rfl (.there rfl (.there rfl .here))))))))))))))) (.cons (.there rfl (.there rfl (.there rfl (.there rfl (.there rfl (.there rfl (.there rfl (.there rfl (.there rfl (.there rfl (.there rfl (.there rfl (.there rfl (.there rfl (.there rfl (.there rfl .here)))))))))))))))) (.conse .here (rfl) .nil))) (⟨by omega, hL, hK⟩) (by simp only [hmu3]; omega)
  · have h70 := of_decide_eq_false h70
    refine JC.exit ?_
    refine JE.exit_seq ?_
    refine JE.exit_seq ?_
    refine JE.exit_here ?_
    refine JE.seq ?_
    refine JC.seq ?_
    refine JC.region ?_
    refine JL.val rfl (Run.assign .const) ?_
    refine JL.nil ?_
    refine JE.seq ?_
    refine JC.ret ?_
    refine JE.ret1 @Try.results14 .here ?_
    exact ⟨rfl, hK⟩

set_option maxHeartbeats 2000000 in
theorem into_any {lb cap : Nat} {b : Value} {l l2 : List UInt8} (w0 : World) (hL : Lent w0 lb cap l) (hs : SlB w0 b l2) (hlen : l2.length = l.length) (hne : ∀ k, ownB b k → k ≠ lb) :
    Calls Try.prog 16 #[.slice (some ⟨lb, 0, none⟩) l.length cap, b] w0 fun e w' => e = .returned (.tuple #[]) ∧ Lent w' lb cap l2 ∧ Ch (One lb) w0 w' := by
  obtain ⟨k, hk⟩ : ∃ k, k = l.length := ⟨_, rfl⟩
  rw [← hk] at hlen ⊢
  have hK : Ch (One lb) w0 w0 := Ch.refl w0
  have hs0 := hs
  obtain ⟨a, cap2, rfl⟩ := hs.slice
  refine calls @Try.func16 rfl @Try.ntmps16 rfl ?_
  show JC _ _ _ _ _ [(0, .slice (some ⟨lb, 0, none⟩) k cap), (1, .slice a l2.length cap2)] _
  refine JC.seq ?_
  refine JC.region ?_
  refine JL.val rfl (Run.assign .const) ?_
  refine JL.nil ?_
  refine JE.seq ?_
  refine JC.block ?_
  refine JC.loop (α := Nat) (fun t => [(0, .slice (some ⟨lb, 0, none⟩) k cap), (1, .slice a l2.length cap2), (4, .int .i64 (t : Int))]) (fun t w => t ≤ k ∧ Lent w lb cap (l2.take t ++ l.drop t) ∧ Ch (One lb) w0 w) (fun t => k - t) 0 ⟨Nat.zero_le _, by simpa using hL, hK⟩ (.cons (.there rfl .here) (.cons (.there rfl (.there rfl .here)) (.conse .here (rfl) .nil))) ?_
  rintro t w1 m2 ⟨ht, hL, hK⟩ hmu3
  show JC _ _ _ _ _ [(0, .slice (some ⟨lb, 0, none⟩) k cap), (1, .slice a l2.length cap2), (4, .int .i64 (t : Int))] _
  have hcl := hL.1
  have hcm := hL.2.1
  refine JC.seq ?_
  refine JC.seq ?_
  refine JC.region ?_
  refine JL.val rfl (Run.move (.tmp (.there rfl (.there rfl .here)))) ?_
  refine JL.val rfl (Run.move (.tmp (.there rfl .here))) ?_
  refine JL.val rfl (Run.len @Try.underlying53 (.tmp .here)) ?_
  refine JL.val rfl (Run.lss (.tmp (.there rfl (.there rfl .here))) (.tmp .here)) ?_
  refine JL.nil ?_
  refine JE.seq ?_
  refine JC.cond (.tmp .here) (fun hlt => ?_) (fun hlt => ?_)
  · have hlt := of_decide_eq_true hlt
    have htk : t < k := by omega
    obtain ⟨b2, o2, rfl, -, hb1, hb2, hbs⟩ := slb_pos hs (by omega)
    have hbs2 := hbs.ch hK (fun h => hne b2 rfl h)
    obtain ⟨h1, h2, cs, hB, h3, h4⟩ := hL
    have hll : (l2.take t ++ l.drop t).length = k := by simp; omega
    rw [hll] at h1 h4
    refine JC.skip ?_
    refine JE.seq ?_
    refine JC.seq ?_
    refine JC.block ?_
    refine JC.region ?_
    refine JL.val rfl (Run.move (.tmp (.there rfl (.there rfl (.there rfl (.there rfl .here)))))) ?_
    refine JL.val rfl (Run.move (.tmp (.there rfl (.there rfl (.there rfl (.there rfl (.there rfl (.there rfl (.there rfl .here))))))))) ?_
    refine JL.val rfl (Run.move (.tmp (.there rfl (.there rfl (.there rfl (.there rfl (.there rfl (.there rfl (.there rfl .here))))))))) ?_
    refine JL.val rfl (Run.move (.tmp (.there rfl (.there rfl (.there rfl (.there rfl (.there rfl (.there rfl (.there rfl (.there rfl (.there rfl .here))))))))))) ?_
    refine JL.val rfl (Run.indexAddr (m := t) @Try.underlying53 (@Try.sizeOf5 _) (.tmp (.there rfl .here)) (.tmp .here) (rfl) (by omega) rfl) ?_
    refine JL.val rfl (Run.load (@Try.isAgg5 _) (.tmp .here) (by first | exact (hbs2.get (j := t) (by omega) (by omega)))) ?_
    refine JL.val rfl (Run.indexAddr (m := t) @Try.underlying53 (@Try.sizeOf5 _) (.tmp (.there rfl (.there rfl (.there rfl (.there rfl (.there rfl .here)))))) (.tmp (.there rfl (.there rfl (.there rfl (.there rfl .here))))) (rfl) (by omega) rfl) ?_
    refine JL.storeB (j := 0 + t * 1) (@Try.sizeOf5 _) (.tmp .here) (.tmp (.there rfl .here)) (by rfl) (by rfl) hB (by rw [Nat.blt_eq]; omega) ?_
    intro w4 hc5 hb6
    replace hB := hb6; clear hb6
    rw [show 0 + t * 1 = t from by omega] at hB
    have hL2 : Lent w4 lb cap (l2.take (t + 1) ++ l.drop (t + 1)) := by
      have h5 := lent_set (l := l2.take t ++ l.drop t) (t := t) (by rw [hll]; exact h1) h2 hB h3 (by rw [hll]; exact h4) (by omega)
      have e : (l2.take t ++ l.drop t).set t (l2[t]'(by omega)) = l2.take (t + 1) ++ l.drop (t + 1) := by
        rw [List.set_append, if_neg (by simp; omega), List.take_succ_eq_append_getElem (by omega), List.append_assoc]
        congr 1
        rw [List.drop_eq_getElem_cons (l := l) (by omega), show t - (l2.take t).length = 0 from by simp; omega]
        rfl
      rwa [e] at h5
    have hK2 := hK.trans hc5
    refine JL.nil ?_
    refine JE.blk ?_
    refine JE.seq ?_
    refine JC.region ?_
    refine JL.val rfl (Run.move (.tmp (.there rfl (.there rfl (.there rfl (.there rfl (.there rfl (.there rfl (.there rfl (.there rfl (.there rfl (.there rfl (.there rfl (.there rfl (.there rfl .here))))))))))))))) ?_
    refine JL.val rfl (Run.add (.tmp .here) .const (wrap_i64 (by omega))) ?_
    refine JL.val rfl (Run.assign (.tmp .here)) ?_
    refine JL.nil ?_
    exact JE.again (t + 1) (.cons (.there rfl (.there rfl (.there rfl (.there rfl (.there rfl (.there rfl (.there rfl (.there rfl (.there rfl (.there rfl (.there rfl (.there rfl (.there rfl (.there rfl .here)))))))))))))) (.cons (.there rfl (.there rfl (.there rfl (.there rfl (.there rfl (.there rfl (.there rfl (.there rfl (.there rfl (.there rfl (.there rfl (.there rfl (.there rfl (.there rfl (.there rfl .here))))))))))))))) (.conse .here (rfl) .nil))) (⟨by omega, hL2, hK2⟩) (by simp only [hmu3]; omega)
  · have hlt := of_decide_eq_false hlt
    obtain rfl : t = k := by omega
    refine JC.exit ?_
    refine JE.exit_seq ?_
    refine JE.exit_seq ?_
    refine JE.exit_here ?_
    refine JE.end0 @Try.results16 ?_
    refine ⟨rfl, ?_, hK⟩
    rw [List.take_of_length_le (by omega), List.drop_of_length_le (by omega), List.append_nil] at hL; exact hL


theorem owns_blk {w : World} {base b n cap : Nat} {T : TypeId} {xs : List Value} (h : Owns w base T 1 (.slice (some ⟨b, 0, none⟩) n cap) n xs) : ∃ cs, Blk w b T cs ∧ cs.length = cap ∧ n ≤ cap ∧ cap ≤ 9223372036854775807 ∧ cs.take n = xs := by
  rcases h.2 with ⟨hv, _⟩ | ⟨b', cap', cs, hv, hb, hB, hl, h1, h2, ht⟩
  · cases hv
  · cases hv
    exact ⟨cs, hB, by omega, h1, h2, by simpa using ht⟩
theorem slb_set {w : World} {b n cap j : Nat} {cs : List Value} {l : List UInt8} {y : UInt8} (hB : Blk w b 5 (cs.set j (.int .u8 (y.toNat : Int)))) (hl : cs.length = cap) (hn : n ≤ cap) (hc : cap ≤ 9223372036854775807) (ht : cs.take n = l.map bv) : SlB w (.slice (some ⟨b, 0, none⟩) n cap) (l.set j y) := by
  have hll : l.length = n := by have := congrArg List.length ht; simp at this; omega
  refine SlB.ofBs (fun i c hi => ?_) (by simpa using hll) hn hc
  rw [Nat.zero_add]
  refine hB.cell ?_
  have h2 : ((cs.set j (.int .u8 (y.toNat : Int))).take n) = (l.set j y).map bv := by rw [List.take_set, ht, List.map_set]; rfl
  have hil : i < n := by have := (List.getElem?_eq_some_iff.1 hi).1; simp at this; omega
  have h3 : ((cs.set j (.int .u8 (y.toNat : Int))).take n)[i]? = some (bv c) := by rw [h2, List.getElem?_map, hi]; rfl
  rwa [List.getElem?_take_of_lt hil] at h3

set_option maxHeartbeats 2000000 in
theorem other_any {b : Value} {l : List UInt8} (w0 : World) (h : SlB w0 b l) (hm : l.length ≤ 140737488351232) :
    Calls Try.prog 15 #[b] w0 fun e w' => ∃ v l2, e = .returned v ∧ SlB w' v l2 ∧ l2.length = l.length ∧ (∀ k, ownB v k → w0.heap.size ≤ k) ∧ Ch No w0 w' := by
  have hK : Ch No w0 w0 := Ch.refl w0
  obtain ⟨a, cap, rfl⟩ := h.slice
  have hlm := h.len
  refine calls @Try.func15 rfl @Try.ntmps15 rfl ?_
  show JC _ _ _ _ _ [(0, .slice a l.length cap)] _
  refine JC.seq ?_
  refine JC.region ?_
  refine JL.val rfl (Run.assign .const) ?_
  refine JL.nil ?_
  refine JE.seq ?_
  refine JC.seq ?_
  refine JC.region ?_
  refine JL.val rfl (Run.assign .const) ?_
  refine JL.nil ?_
  refine JE.seq ?_
  refine JC.seq ?_
  refine JC.seq ?_
  refine JC.region ?_
  refine JL.val rfl (Run.move (.tmp (.there rfl (.there rfl .here)))) ?_
  refine JL.val rfl (Run.len @Try.underlying53 (.tmp .here)) ?_
  refine JL.val rfl (Run.sub (.tmp .here) .const (wrap_i64 (by omega))) ?_
  refine JL.val rfl (Run.assign (.tmp .here)) ?_
  refine JL.nil ?_
  refine JE.seq ?_
  refine JC.block ?_
  have hO : Owns w0 w0.heap.size 5 1 (.slice none 0 0) 0 ((l.reverse.take 0).map bv) := Owns.nil _ _ _ _
  refine JC.loop (α := Nat × Value) (fun ⟨t, v⟩ => [(0, .slice a l.length cap), (3, v), (4, .int .i64 ((l.length : Int) - 1 - (t : Int)))]) (fun ⟨t, v⟩ w => t ≤ l.length ∧ Owns w w0.heap.size 5 1 v t ((l.reverse.take t).map bv) ∧ Ch No w0 w) (fun ⟨t, v⟩ => l.length - t) (0, _) ⟨Nat.zero_le _, hO, hK⟩ (.cons (.there rfl (.there rfl (.there rfl (.there rfl (.there rfl (.there rfl .here)))))) (.cons (.there rfl (.there rfl (.there rfl (.there rfl .here)))) (.conse .here (by simp) .nil))) ?_
  rintro ⟨t, v⟩ w1 m2 ⟨ht, hO, hK⟩ hmu3
  show JC _ _ _ _ _ [(0, .slice a l.length cap), (3, v), (4, .int .i64 ((l.length : Int) - 1 - (t : Int)))] _
  refine JC.seq ?_
  refine JC.seq ?_
  refine JC.region ?_
  refine JL.val rfl (Run.move (.tmp (.there rfl (.there rfl .here)))) ?_
  refine JL.val rfl (Run.geq (.tmp .here) .const) ?_
  refine JL.nil ?_
  refine JE.seq ?_
  refine JC.cond (.tmp .here) (fun hge => ?_) (fun hge => ?_)
  · have hge := of_decide_eq_true hge
    obtain ⟨b, o, rfl, -, hb1, hb2, hbs⟩ := slb_pos h (by omega)
    have hlt : l.length - 1 - t < l.length := by omega
    refine JC.skip ?_
    refine JE.seq ?_
    refine JC.seq ?_
    refine JC.block ?_
    refine JC.region ?_
    refine JL.val rfl (Run.move (.tmp (.there rfl (.there rfl (.there rfl .here))))) ?_
    refine JL.val rfl (Run.move (.tmp (.there rfl (.there rfl (.there rfl .here))))) ?_
    refine JL.val rfl (Run.move (.tmp (.there rfl (.there rfl (.there rfl (.there rfl (.there rfl (.there rfl .here)))))))) ?_
    refine JL.val rfl (Run.indexAddr (m := l.length - 1 - t) @Try.underlying53 (@Try.sizeOf5 _) (.tmp (.there rfl .here)) (.tmp .here) (by omega) (by omega) rfl) ?_
    refine JL.val rfl (Run.load (@Try.isAgg5 _) (.tmp .here) (by first | exact (show _ = some (Value.int .u8 ((l[l.length - 1 - t]).toNat : Int)) from (hbs.no hK).get (j := l.length - 1 - t) hlt (by omega)))) ?_
    refine JL.lit (os := [.tmp 16]) rfl @Try.underlying53 (@Try.sizeOf5 _) (@Try.zeroValue5 _) (by rfl) (by rfl) rfl rfl (by rfl) (.cons (.tmp .here) .nil) (by simp [Value.cells]) ?_
    intro b4 w5 hg6 hc7 Bb4
    have ge_b4 : _ ≤ b4 := Nat.le_trans hK.size hg6
    replace hO := hO.no hc7
    replace hK := hK.no hc7
    refine JL.appendS rfl @Try.underlying53 @Try.underlying53 (.inr ⟨_, rfl⟩) info_u8 (by rfl) (by decide) (.tmp (.there rfl (.there rfl (.there rfl (.there rfl (.there rfl .here)))))) hO (.tmp .here) ((Src.ofBlk Bb4 rfl)) (by simp) (by intro u hu; simp at hu; subst hu; rfl) (hK.size) (by omega) ?_
    intro v8 w9 hO11 hc10
    replace hK := hK.ownv hO hc10 (by omega)
    clear Bb4
    replace hO := hO11; clear hO11
    have hO2 : Owns w9 w0.heap.size 5 1 v8 (t + 1) ((l.reverse.take (t + 1)).map bv) := by rw [List.take_succ_eq_append_getElem (by simp; omega), List.map_append, List.getElem_reverse]; exact hO
    refine JL.val rfl (Run.assign (.tmp .here)) ?_
    refine JL.nil ?_
    refine JE.blk ?_
    refine JE.seq ?_
    refine JC.region ?_
    refine JL.val rfl (Run.move (.tmp (.there rfl (.there rfl (.there rfl (.there rfl (.there rfl (.there rfl (.there rfl (.there rfl (.there rfl (.there rfl (.there rfl (.there rfl .here)))))))))))))) ?_
    refine JL.val rfl (Run.sub (.tmp .here) .const (wrap_i64 (by omega))) ?_
    refine JL.val rfl (Run.assign (.tmp .here)) ?_
    refine JL.nil ?_
    exact JE.again (t + 1, v8) (.cons (.there rfl (.there rfl (.there rfl (.there rfl (.there rfl (.there rfl (.there rfl (.there rfl (.there rfl (.there rfl (.there rfl (.there rfl (.there rfl .here))))))))))))) (.cons (.there rfl (.there rfl (.there rfl .here))) (.conse .here (congrArg (Value.int .i64) (by omega)) .nil))) (⟨by omega, hO2, hK⟩) (by simp only [hmu3]; omega)
  · have hge := of_decide_eq_false hge
    obtain rfl : t = l.length := by omega
    rw [List.take_of_length_le (by simp)] at hO
    refine JC.exit ?_
    refine JE.exit_seq ?_
    refine JE.exit_seq ?_
    refine JE.exit_here ?_
    refine JE.seq ?_
    refine JC.seq ?_
    refine JC.seq ?_
    refine JC.region ?_
    refine JL.val rfl (Run.move (.tmp (.there rfl (.there rfl .here)))) ?_
    refine JL.val rfl (Run.len @Try.underlying53 (.tmp .here)) ?_
    refine JL.val rfl (Run.gtr (.tmp .here) .const) ?_
    refine JL.val rfl (Run.move (.tmp .here)) ?_
    refine JL.gsplit (dj := 22) (want := true) .here (fun g0B => ?_) (fun g0B => ?_)
    · have g0 := of_decide_eq_true g0B
      refine JL.gyesb (oj := _) (by rfl) (by rfl) .here g0B ?_
      refine JL.val rfl (Run.move (.tmp (.there rfl (.there rfl (.there rfl (.there rfl (.there rfl (.there rfl (.there rfl .here))))))))) ?_
      refine JL.gyesb (oj := _) (by rfl) (by rfl) (.there rfl .here) g0B ?_
      refine JL.val rfl (Run.bytesStr @Try.underlying53 @Try.underlying9 @Try.underlying5 (.tmp .here) (SlB.ofOwns hO)) ?_
      refine JL.gyesb (oj := _) (by rfl) (by rfl) (.there rfl (.there rfl .here)) g0B ?_
      refine JL.val rfl (Run.move (.tmp (.there rfl (.there rfl (.there rfl (.there rfl (.there rfl (.there rfl (.there rfl (.there rfl .here)))))))))) ?_
      refine JL.gyesb (oj := _) (by rfl) (by rfl) (.there rfl (.there rfl (.there rfl .here))) g0B ?_
      refine JL.val rfl (Run.bytesStr @Try.underlying53 @Try.underlying9 @Try.underlying5 (.tmp .here) (h.no hK)) ?_
      refine JL.gyesb (oj := _) (by rfl) (by rfl) (.there rfl (.there rfl (.there rfl (.there rfl .here)))) g0B ?_
      refine JL.val rfl (Run.eqS (s := l.reverse) (t := l) (.tmp (.there rfl (.there rfl .here))) (.tmp .here)) ?_
      refine JL.val rfl (Run.pickT (.tmp (.there rfl (.there rfl (.there rfl (.there rfl (.there rfl .here)))))) g0B (.tmp .here)) ?_
      refine JL.nil ?_
      refine JE.keep (L := _) (.cons .here (.cons (.there rfl (.there rfl (.there rfl (.there rfl (.there rfl (.there rfl (.there rfl (.there rfl (.there rfl (.there rfl (.there rfl (.there rfl (.there rfl .here))))))))))))) .nil)) ?_
      refine JE.seq ?_
      refine JC.cond (.tmp .here) (fun heq => ?_) (fun heq => ?_)
      · have hlr : l.reverse.length = l.length := by simp
        obtain ⟨lb, lcap, rfl, hl1, hl2, hl3, hl4⟩ := hO.some (by omega)
        have hlt : l.length - 1 < l.reverse.length := by omega
        have hcell : w1.cell? ⟨lb, 0 + (l.length - 1) * 1, none⟩ = some (Value.int .u8 ((l.reverse[l.length - 1]).toNat : Int)) := by
          rw [show 0 + (l.length - 1) * 1 = l.length - 1 from by omega]
          exact hO.cell (by rw [List.getElem?_map, List.getElem?_eq_getElem hlt]; rfl)
        obtain ⟨y, hy⟩ := xor_byte (l.reverse[l.length - 1])
        obtain ⟨cs, hB, hcl, hcn, hcm, hct⟩ := owns_blk hO
        refine JC.region ?_
        refine JL.val rfl (Run.move (.tmp (.there rfl .here))) ?_
        refine JL.val rfl (Run.move (.tmp (.there rfl (.there rfl .here)))) ?_
        refine JL.val rfl (Run.len @Try.underlying53 (.tmp .here)) ?_
        refine JL.val rfl (Run.sub (.tmp .here) .const (wrap_i64 (by omega))) ?_
        refine JL.val rfl (Run.move (.tmp (.there rfl (.there rfl (.there rfl (.there rfl (.there rfl .here))))))) ?_
        refine JL.val rfl (Run.move (.tmp (.there rfl (.there rfl (.there rfl (.there rfl (.there rfl (.there rfl .here)))))))) ?_
        refine JL.val rfl (Run.len @Try.underlying53 (.tmp .here)) ?_
        refine JL.val rfl (Run.sub (.tmp .here) .const (wrap_i64 (by omega))) ?_
        refine JL.val rfl (Run.indexAddr (m := l.length - 1) @Try.underlying53 (@Try.sizeOf5 _) (.tmp (.there rfl (.there rfl (.there rfl .here)))) (.tmp .here) (by omega) (by omega) rfl) ?_
        refine JL.val rfl (Run.load (@Try.isAgg5 _) (.tmp .here) (by first | exact hcell)) ?_
        refine JL.val rfl (Run.bitop (.tmp .here) .const (by simp) hy) ?_
        refine JL.val rfl (Run.indexAddr (m := l.length - 1) @Try.underlying53 (@Try.sizeOf5 _) (.tmp (.there rfl (.there rfl (.there rfl (.there rfl (.there rfl (.there rfl (.there rfl (.there rfl (.there rfl (.there rfl .here))))))))))) (.tmp (.there rfl (.there rfl (.there rfl (.there rfl (.there rfl (.there rfl (.there rfl .here)))))))) (by omega) (by omega) rfl) ?_
        refine JL.storeB (j := 0 + (l.length - 1) * 1) (@Try.sizeOf5 _) (.tmp .here) (.tmp (.there rfl .here)) (by rfl) (by rfl) hB (by rw [Nat.blt_eq]; omega) ?_
        intro w12 hc13 hb14
        replace hK := hK.own hc13 hl3
        replace hB := hb14; clear hb14
        rw [show 0 + (l.length - 1) * 1 = l.length - 1 from by omega] at hB
        refine JL.nil ?_
        refine JE.keep (L := _) (.cons (.there rfl (.there rfl (.there rfl (.there rfl (.there rfl (.there rfl (.there rfl (.there rfl (.there rfl (.there rfl (.there rfl (.there rfl (.there rfl .here))))))))))))) .nil) ?_
        refine JE.seq ?_
        refine JC.seq ?_
        refine JC.region ?_
        refine JL.val rfl (Run.move (.tmp .here)) ?_
        refine JL.val rfl (Run.assign (.tmp .here)) ?_
        refine JL.nil ?_
        refine JE.seq ?_
        refine JC.ret ?_
        refine JE.ret1 @Try.results15 .here ?_
        exact ⟨_, l.reverse.set (l.length - 1) y, rfl, slb_set hB hcl hcn hcm hct, by simp, fun k hk => by have hk2 : k = lb := hk; omega, hK⟩
      · refine JC.skip ?_
        refine JE.seq ?_
        refine JC.seq ?_
        refine JC.region ?_
        refine JL.val rfl (Run.move (.tmp (.there rfl .here))) ?_
        refine JL.val rfl (Run.assign (.tmp .here)) ?_
        refine JL.nil ?_
        refine JE.seq ?_
        refine JC.ret ?_
        refine JE.ret1 @Try.results15 .here ?_
        exact ⟨_, l.reverse, rfl, SlB.ofOwns hO, by simp, fun k hk => (hO.ge k hk).1, hK⟩
    · refine JL.gnob rfl (oj := _) (by rfl) (by rfl) .here g0B ?_
      refine JL.gnob rfl (oj := _) (by rfl) (by rfl) (.there rfl .here) g0B ?_
      refine JL.gnob rfl (oj := _) (by rfl) (by rfl) (.there rfl (.there rfl .here)) g0B ?_
      refine JL.gnob rfl (oj := _) (by rfl) (by rfl) (.there rfl (.there rfl (.there rfl .here))) g0B ?_
      refine JL.gnob rfl (oj := _) (by rfl) (by rfl) (.there rfl (.there rfl (.there rfl (.there rfl .here)))) g0B ?_
      refine JL.val rfl (Run.pickF (.tmp (.there rfl (.there rfl (.there rfl (.there rfl (.there rfl .here)))))) g0B .const) ?_
      refine JL.nil ?_
      refine JE.keep (L := _) (.cons .here (.cons (.there rfl (.there rfl (.there rfl (.there rfl (.there rfl (.there rfl (.there rfl (.there rfl (.there rfl (.there rfl (.there rfl (.there rfl (.there rfl .here))))))))))))) .nil)) ?_
      refine JE.seq ?_
      refine JC.condF (.tmp .here) (rfl) ?_
      refine JC.skip ?_
      refine JE.seq ?_
      refine JC.seq ?_
      refine JC.region ?_
      refine JL.val rfl (Run.move (.tmp (.there rfl .here))) ?_
      refine JL.val rfl (Run.assign (.tmp .here)) ?_
      refine JL.nil ?_
      refine JE.seq ?_
      refine JC.ret ?_
      refine JE.ret1 @Try.results15 .here ?_
      exact ⟨_, l.reverse, rfl, SlB.ofOwns hO, by simp, fun k hk => (hO.ge k hk).1, hK⟩

end Go.Proofs.Ytggngmmbpkoooaa.Hd
