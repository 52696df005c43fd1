/- All answers go into the book. -/
import Derived.Test.YtggngmmbpkoooaaLtW
namespace Go.Proofs.Ytggngmmbpkoooaa.Bk
open Go Go.Proofs.Ytggngmmbpkoooaa.Eng Go.Proofs.Ytggngmmbpkoooaa.Hd
set_option linter.unusedVariables false
set_option linter.unusedSimpArgs false
set_option maxRecDepth 4000
/-- the answers from the i-th on have been written into by nobody. -/
def From (w : World) (ρ : Nat → Role) (G : List Ent) (i : Nat) : Prop := ∀ j e, i ≤ j → G[j]? = some e → (∃ xs, Owns w 0 5 1 e.1 (elen e.1) xs) ∧ inB ρ e.1 (.fresh j) ∧ elen e.1 ≤ 1099511627776
theorem From.no {w w' : World} {ρ : Nat → Role} {G : List Ent} {i : Nat} (h : From w ρ G i) (hc : Ch No w w') : From w' ρ G i := fun j e hj he => let ⟨⟨xs, h1⟩, h2⟩ := h j e hj he; ⟨⟨xs, h1.no hc⟩, h2⟩
theorem num_bytes {s s' : BookS} {x : Value} (H : Num s) (ht : s'.turn = s.turn + 1) (ha : s'.at_ = s.at_) (hu : s'.used ≤ 16777216) (h3 : s.turn + 1 ≤ 274877906944) (hx : elen x ≤ 1099511627776) (hL : s'.L = s.L ∨ s'.L = s.L ++ [(x, s.turn + 1)]) : Num s' := by
  have h1 := H.h1
  have h2 := H.h2
  rcases hL with hL | hL
  · exact ⟨by rw [hL, ha]; exact h1, by rw [hL, ha, ht]; omega, by omega, hu, by rw [hL]; exact H.hM, by rw [hL, ha]; exact H.hE⟩
  · refine ⟨by rw [hL, ha]; simp; omega, by rw [hL, ha, ht]; simp; omega, by omega, hu, fun e he => ?_, fun i e hi he => ?_⟩
    · rw [hL] at he
      rcases List.mem_append.1 he with he | he
      · exact H.hM e he
      · rw [List.mem_singleton.1 he]; exact h3
    · rw [hL] at he
      by_cases hlt : i < s.L.length
      · rw [List.getElem?_append_left hlt] at he; exact H.hE i e (by omega) he
      · rw [List.getElem?_append_right (by omega)] at he
        have hz : i - s.L.length = 0 := by
          have := (List.getElem?_eq_some_iff.1 he).1; simp at this; omega
        rw [hz] at he; simp at he; rw [← he]; exact hx

set_option maxHeartbeats 4000000 in
theorem same_any {ρ : Nat → Role} {tb : Nat} {g1 g2 : Value} {G : List Ent} (w0 : World) (D : LateOk w0 ρ tb g1 g2 G G) (E : Ents w0 ρ G) (hG : G.length ≤ 1099511627776) :
    Calls Try.prog 27 #[.pointer (some ⟨tb, 0, none⟩)] w0 fun e w' => e = .returned (.bool true) ∧ Ch No w0 w' := by
  have hK : Ch No w0 w0 := Ch.refl w0
  obtain ⟨a1, c1, rfl⟩ := owns_form D.o1
  obtain ⟨a2, c2, rfl⟩ := owns_form D.o2
  refine calls @Try.func27 rfl @Try.ntmps27 rfl ?_
  show JC _ _ _ _ _ [(0, .pointer (some ⟨tb, 0, none⟩))] _
  refine JC.seq ?_
  refine JC.region ?_
  refine JL.val rfl (Run.assign .const) ?_
  refine JL.nil ?_
  refine JE.seq ?_
  refine JC.seq ?_
  refine JC.seq ?_
  refine JC.region ?_
  refine JL.val rfl (Run.assign .const) ?_
  refine JL.nil ?_
  refine JE.seq ?_
  refine JC.block ?_
  refine JC.loop (α := Nat) (fun i => [(0, .pointer (some ⟨tb, 0, none⟩)), (3, .int .i64 (i : Int))]) (fun i w => i ≤ G.length ∧ LateOk w ρ tb (.slice a1 G.length c1) (.slice a2 G.length c2) G G ∧ Ents w ρ G ∧ Ch No w0 w) (fun i => G.length - i) 0 ⟨Nat.zero_le _, D, E, hK⟩ (.cons (.there rfl (.there rfl .here)) (.conse .here (rfl) .nil)) ?_
  rintro i w1 m2 ⟨hi, D, E, hK⟩ hmu3
  show JC _ _ _ _ _ [(0, .pointer (some ⟨tb, 0, none⟩)), (3, .int .i64 (i : Int))] _
  refine JC.seq ?_
  refine JC.seq ?_
  refine JC.region ?_
  refine JL.val rfl (Run.move (.tmp (.there rfl .here))) ?_
  refine JL.val rfl (Run.move (.tmp (.there rfl .here))) ?_
  refine JL.val rfl (Run.nilPtr (.tmp .here)) ?_
  refine JL.val rfl (Run.fieldAddr (ft := 23) (foff := 0) (off := 0) @Try.underlying49 (by rfl) (@Try.sizeOf23 _) rfl rfl (.tmp .here)) ?_
  refine JL.val rfl (Run.loadB (@Try.isAgg23 _) (.tmp .here) (D.B) (by rfl)) ?_
  refine JL.val rfl (Run.len @Try.underlying23 (.tmp .here)) ?_
  refine JL.val rfl (Run.lss (.tmp (.there rfl (.there rfl (.there rfl (.there rfl (.there rfl .here)))))) (.tmp .here)) ?_
  refine JL.nil ?_
  refine JE.seq ?_
  refine JC.cond (.tmp .here) (fun hlt => ?_) (fun hlt => ?_)
  · have hlt := of_decide_eq_true hlt
    have hil : i < G.length := by omega
    obtain ⟨b1, rfl, -⟩ := owns_pos D.o1 (by omega)
    obtain ⟨b2, rfl, -⟩ := owns_pos D.o2 (by omega)
    obtain ⟨e, he⟩ : ∃ e, e = G[i] := ⟨_, rfl⟩
    have hGe : G[i]? = some e := by rw [List.getElem?_eq_getElem hil, he]
    have hi1 : (G.map (·.1))[i]? = some e.1 := by rw [List.getElem?_map, hGe]; rfl
    have hi2 : (G.map (·.2.1))[i]? = some e.2.1 := by rw [List.getElem?_map, hGe]; rfl
    refine JC.skip ?_
    refine JE.seq ?_
    refine JC.seq ?_
    refine JC.block ?_
    refine JC.seq ?_
    refine JC.stillc mixed (by kernel_rfl) ?_
    intro w4 hd5
    replace D := D.no hd5
    replace E := E.no hd5
    replace hK := hK.no hd5
    refine JS.val rfl (Run.move (.tmp (.there rfl (.there rfl (.there rfl (.there rfl (.there rfl (.there rfl (.there rfl .here))))))))) ?_
    refine JS.val rfl (Run.nilPtr (.tmp .here)) ?_
    refine JS.val rfl (Run.fieldAddr (ft := 23) (foff := 0) (off := 0) @Try.underlying49 (by rfl) (@Try.sizeOf23 _) rfl rfl (.tmp .here)) ?_
    refine JS.val rfl (Run.loadB (@Try.isAgg23 _) (.tmp .here) (D.B) (by rfl)) ?_
    refine JS.val rfl (Run.move (.tmp (.there rfl (.there rfl (.there rfl (.there rfl (.there rfl (.there rfl (.there rfl (.there rfl (.there rfl (.there rfl (.there rfl (.there rfl .here)))))))))))))) ?_
    refine JS.val rfl (Run.indexAddr (m := i) @Try.underlying23 (@Try.sizeOf53 _) (.tmp (.there rfl .here)) (.tmp .here) (rfl) (by omega) rfl) ?_
    refine JS.val rfl (Run.load (@Try.isAgg53 _) (.tmp .here) (by first | exact (ocell D.o1 hi1))) ?_
    refine JS.val rfl (Run.bytesStr @Try.underlying53 @Try.underlying9 @Try.underlying5 (.tmp .here) (SlB.ofOwns (E i e hGe).1)) ?_
    refine JS.val rfl (Run.move (.tmp (.there rfl (.there rfl (.there rfl (.there rfl (.there rfl (.there rfl (.there rfl (.there rfl (.there rfl (.there rfl (.there rfl (.there rfl (.there rfl (.there rfl (.there rfl .here))))))))))))))))) ?_
    refine JS.val rfl (Run.nilPtr (.tmp .here)) ?_
    refine JS.val rfl (Run.fieldAddr (ft := 23) (foff := 1) (off := 1) @Try.underlying49 (by rfl) (@Try.sizeOf23 _) rfl rfl (.tmp .here)) ?_
    refine JS.val rfl (Run.loadB (@Try.isAgg23 _) (.tmp .here) (D.B) (by rfl)) ?_
    refine JS.val rfl (Run.move (.tmp (.there rfl (.there rfl (.there rfl (.there rfl (.there rfl (.there rfl (.there rfl (.there rfl (.there rfl (.there rfl (.there rfl (.there rfl (.there rfl (.there rfl (.there rfl (.there rfl (.there rfl (.there rfl (.there rfl (.there rfl .here)))))))))))))))))))))) ?_
    refine JS.val rfl (Run.indexAddr (m := i) @Try.underlying23 (@Try.sizeOf53 _) (.tmp (.there rfl .here)) (.tmp .here) (rfl) (by omega) rfl) ?_
    refine JS.val rfl (Run.load (@Try.isAgg53 _) (.tmp .here) (by first | exact (ocell D.o2 hi2))) ?_
    refine JS.val rfl (Run.bytesStr @Try.underlying53 @Try.underlying9 @Try.underlying5 (.tmp .here) (E i e hGe).2.2.1) ?_
    refine JS.val rfl (Run.neS (s := e.2.2) (t := e.2.2) (.tmp (.there rfl (.there rfl (.there rfl (.there rfl (.there rfl (.there rfl (.there rfl (.there rfl .here))))))))) (.tmp .here)) ?_
    refine JS.nil ?_
    refine JE.seq ?_
    refine JC.condF (.tmp .here) (by simp) ?_
    refine JC.skip ?_
    refine JE.blk ?_
    refine JE.seq ?_
    refine JC.region ?_
    refine JL.val rfl (Run.move (.tmp (.there rfl (.there rfl (.there rfl (.there rfl (.there rfl (.there rfl (.there rfl (.there rfl (.there rfl (.there rfl (.there rfl (.there rfl (.there rfl (.there rfl (.there rfl (.there rfl (.there rfl (.there rfl (.there rfl (.there rfl (.there rfl (.there rfl (.there rfl (.there rfl (.there rfl .here))))))))))))))))))))))))))) ?_
    refine JL.val rfl (Run.add (.tmp .here) .const (wrap_i64 (by omega))) ?_
    refine JL.val rfl (Run.assign (.tmp .here)) ?_
    refine JL.nil ?_
    exact JE.again (i + 1) (.cons (.there rfl (.there rfl (.there rfl (.there rfl (.there rfl (.there rfl (.there rfl (.there rfl (.there rfl (.there rfl (.there rfl (.there rfl (.there rfl (.there rfl (.there rfl (.there rfl (.there rfl (.there rfl (.there rfl (.there rfl (.there rfl (.there rfl (.there rfl (.there rfl (.there rfl (.there rfl (.there rfl .here))))))))))))))))))))))))))) (.conse .here (rfl) .nil)) (⟨by omega, D, E, hK⟩) (by simp only [hmu3]; omega)
  · have hlt := of_decide_eq_false hlt
    refine JC.exit ?_
    refine JE.exit_seq ?_
    refine JE.exit_seq ?_
    refine JE.exit_here ?_
    refine JE.seq ?_
    refine JC.seq ?_
    refine JC.region ?_
    refine JL.val rfl (Run.assign .const) ?_
    refine JL.nil ?_
    refine JE.keep (L := _) (.cons .here .nil) ?_
    refine JE.seq ?_
    refine JC.ret ?_
    refine JE.ret1 @Try.results27 .here ?_
    exact ⟨rfl, hK⟩


/-- what Settle may write: blocks that are known, but for the texts. -/
def isS (ρ : Nat → Role) (k : Nat) : Prop := ρ k ≠ .none ∧ ρ k ≠ .text
theorem isS_B {ρ : Nat → Role} {k : Nat} (h : isB ρ k) : isS ρ k := by
  rcases h with h | ⟨m, h⟩ <;> (unfold isS; rw [h]; exact ⟨fun h => (by cases h), fun h => (by cases h)⟩)
theorem isS_L {ρ : Nat → Role} {k : Nat} (h : isL ρ k) : isS ρ k := by
  rcases h with h | h | h <;> (unfold isS; rw [h]; exact ⟨fun h => (by cases h), fun h => (by cases h)⟩)

set_option maxHeartbeats 4000000 in
theorem settle_any {ρ : Nat → Role} {bb tb base : Nat} {n : Int} {v1 v2 g1 g2 : Value} {s : BookS} {G : List Ent} (w0 : World) (C : Core w0 ρ bb v1 v2 s.L s.L s) (K : All w0 ρ s.L) (R : Roles w0 base ρ) (Gb : AtLeast w0 base) (H : Num s) (D : LateOk w0 ρ tb g1 g2 G G) (E : Ents w0 ρ G) (hG : G.length ≤ 1099511627776) (hT : s.turn + G.length ≤ 274877906944) (hEl : ∀ (j : Nat) e, G[j]? = some e → elen e.1 ≤ 1099511627776) :
    Calls Try.prog 11 #[.pointer (some ⟨tb, 0, none⟩), .pointer (some ⟨bb, 0, none⟩), .int .i64 n] w0 fun e w' => ∃ v1' v2' g1' g2' s' ρ' G', e = .returned (.bool true) ∧ Core w' ρ' bb v1' v2' s'.L s'.L s' ∧ All w' ρ' s'.L ∧ Roles w' base ρ' ∧ AtLeast w' base ∧ Num s' ∧ LateOk w' ρ' tb g1' g2' G' G' ∧ Ents w' ρ' G' ∧ (∀ k, k < w0.heap.size → (∀ i, ρ k ≠ .fresh i) → ρ' k = ρ k) ∧ Ch (isS ρ) w0 w' ∧ s'.turn + G'.length ≤ s.turn + G.length ∧ (G' = G ∨ G' = []) := by
  have hK : Ch (isS ρ) w0 w0 := Ch.refl w0
  obtain ⟨a1, c1, rfl⟩ := owns_form D.o1
  refine calls @Try.func11 rfl @Try.ntmps11 rfl ?_
  show JC _ _ _ _ _ [(0, .pointer (some ⟨tb, 0, none⟩)), (1, .pointer (some ⟨bb, 0, none⟩)), (2, .int .i64 n)] _
  refine JC.seq ?_
  refine JC.region ?_
  refine JL.val rfl (Run.assign .const) ?_
  refine JL.nil ?_
  refine JE.seq ?_
  refine JC.seq ?_
  refine JC.seq ?_
  refine JC.region ?_
  refine JL.val rfl (Run.move (.tmp (.there rfl .here))) ?_
  refine JL.val rfl (Run.nilPtr (.tmp .here)) ?_
  refine JL.val rfl (Run.fieldAddr (ft := 23) (foff := 0) (off := 0) @Try.underlying49 (by rfl) (@Try.sizeOf23 _) rfl rfl (.tmp .here)) ?_
  refine JL.val rfl (Run.loadB (@Try.isAgg23 _) (.tmp .here) (D.B) (by rfl)) ?_
  refine JL.val rfl (Run.len @Try.underlying23 (.tmp .here)) ?_
  refine JL.val rfl (Run.move (.tmp (.there rfl (.there rfl (.there rfl (.there rfl (.there rfl (.there rfl (.there rfl (.there rfl .here)))))))))) ?_
  refine JL.val rfl (Run.lss (.tmp (.there rfl .here)) (.tmp .here)) ?_
  refine JL.nil ?_
  refine JE.keep (L := _) (.cons .here (.cons (.there rfl (.there rfl (.there rfl (.there rfl (.there rfl (.there rfl (.there rfl .here))))))) (.cons (.there rfl (.there rfl (.there rfl (.there rfl (.there rfl (.there rfl (.there rfl (.there rfl .here)))))))) (.cons (.there rfl (.there rfl (.there rfl (.there rfl (.there rfl (.there rfl (.there rfl (.there rfl (.there rfl .here))))))))) .nil)))) ?_
  refine JE.seq ?_
  refine JC.cond (.tmp .here) (fun hlt => ?_) (fun hlt => ?_)
  · refine JC.seq ?_
    refine JC.region ?_
    refine JL.val rfl (Run.assign .const) ?_
    refine JL.nil ?_
    refine JE.seq ?_
    refine JC.ret ?_
    refine JE.ret_seq ?_
    refine JE.ret1 @Try.results11 .here ?_
    exact ⟨v1, v2, _, g2, s, ρ, G, rfl, C, K, R, Gb, H, D, E, fun _ _ _ => rfl, hK, Nat.le_refl _, .inl rfl⟩
  · refine JC.skip ?_
    refine JE.seq ?_
    refine JC.seq ?_
    refine JC.seq ?_
    refine JC.region ?_
    refine JL.val rfl (Run.move (.tmp (.there rfl (.there rfl .here)))) ?_
    refine JL.call rfl (Run.call @Try.call27 (.cons (.tmp .here) .nil)) (same_any _ D E hG) ?_
    rintro e w1 ⟨rfl, hc1⟩
    refine JRet.ret ?_
    replace C := C.no hc1
    replace K := K.no hc1
    replace R := R.no hc1
    replace Gb := Gb.no hc1
    replace D := D.no hc1
    replace E := E.no hc1
    replace hK := hK.no hc1
    refine JL.val rfl (Run.not (.tmp .here)) ?_
    refine JL.nil ?_
    refine JE.seq ?_
    refine JC.condF (.tmp .here) (rfl) ?_
    refine JC.skip ?_
    refine JE.seq ?_
    refine JC.seq ?_
    refine JC.seq ?_
    refine JC.region ?_
    refine JL.val rfl (Run.assign .const) ?_
    refine JL.nil ?_
    refine JE.seq ?_
    refine JC.block ?_
    have F : From w1 ρ G 0 := fun j e _ he => ⟨⟨_, (E j e he).1⟩, (E j e he).2.1, hEl j e he⟩
    refine JC.loop (α := Nat × BookS × (Nat → Role) × Value × Value) (fun ⟨i, s1, ρ1, u1, u2⟩ => [(0, .pointer (some ⟨tb, 0, none⟩)), (1, .pointer (some ⟨bb, 0, none⟩)), (7, .int .i64 (i : Int))]) (fun ⟨i, s1, ρ1, u1, u2⟩ w => i ≤ G.length ∧ Core w ρ1 bb u1 u2 s1.L s1.L s1 ∧ All w ρ1 s1.L ∧ Roles w base ρ1 ∧ AtLeast w base ∧ Num s1 ∧ s1.turn = s.turn + i ∧ LateOk w ρ1 tb (.slice a1 G.length c1) g2 G G ∧ From w ρ1 G i ∧ (∀ k, k < w0.heap.size → (∀ i, ρ k ≠ .fresh i) → ρ1 k = ρ k) ∧ (∀ k, k < w0.heap.size → isS ρ1 k → isS ρ k) ∧ Ch (isS ρ) w0 w) (fun ⟨i, s1, ρ1, u1, u2⟩ => G.length - i) (0, s, ρ, v1, v2) ⟨Nat.zero_le _, C, K, R, Gb, H, rfl, D, F, fun _ _ _ => rfl, fun _ _ h => h, hK⟩ (.cons (.there rfl (.there rfl (.there rfl (.there rfl (.there rfl (.there rfl .here)))))) (.cons (.there rfl (.there rfl (.there rfl (.there rfl (.there rfl (.there rfl (.there rfl .here))))))) (.conse .here (rfl) .nil))) ?_
    rintro ⟨i, s1, ρ1, u1, u2⟩ w2 m3 ⟨hi, C, K, R, Gb, H, ht, D, F, hag, hS, hK⟩ hmu4
    show JC _ _ _ _ _ [(0, .pointer (some ⟨tb, 0, none⟩)), (1, .pointer (some ⟨bb, 0, none⟩)), (7, .int .i64 (i : Int))] _
    refine JC.seq ?_
    refine JC.seq ?_
    refine JC.region ?_
    refine JL.val rfl (Run.move (.tmp (.there rfl (.there rfl .here)))) ?_
    refine JL.val rfl (Run.move (.tmp (.there rfl .here))) ?_
    refine JL.val rfl (Run.nilPtr (.tmp .here)) ?_
    refine JL.val rfl (Run.fieldAddr (ft := 23) (foff := 0) (off := 0) @Try.underlying49 (by rfl) (@Try.sizeOf23 _) rfl rfl (.tmp .here)) ?_
    refine JL.val rfl (Run.loadB (@Try.isAgg23 _) (.tmp .here) (D.B) (by rfl)) ?_
    refine JL.val rfl (Run.len @Try.underlying23 (.tmp .here)) ?_
    refine JL.val rfl (Run.lss (.tmp (.there rfl (.there rfl (.there rfl (.there rfl (.there rfl .here)))))) (.tmp .here)) ?_
    refine JL.nil ?_
    refine JE.seq ?_
    refine JC.cond (.tmp .here) (fun hlt2 => ?_) (fun hlt2 => ?_)
    · have hlt2 := of_decide_eq_true hlt2
      have hil : i < G.length := by omega
      obtain ⟨b1, rfl, -⟩ := owns_pos D.o1 (by omega)
      obtain ⟨e, he⟩ : ∃ e, e = G[i] := ⟨_, rfl⟩
      have hGe : G[i]? = some e := by rw [List.getElem?_eq_getElem hil, he]
      have hi1 : (G.map (·.1))[i]? = some e.1 := by rw [List.getElem?_map, hGe]; rfl
      obtain ⟨⟨xs, hX⟩, hF, hel⟩ := F i e (Nat.le_refl _) hGe
      refine JC.skip ?_
      refine JE.seq ?_
      refine JC.seq ?_
      refine JC.block ?_
      refine JC.region ?_
      refine JL.val rfl (Run.move (.tmp (.there rfl (.there rfl (.there rfl (.there rfl (.there rfl (.there rfl (.there rfl (.there rfl .here)))))))))) ?_
      refine JL.val rfl (Run.move (.tmp (.there rfl (.there rfl (.there rfl (.there rfl (.there rfl (.there rfl (.there rfl (.there rfl .here)))))))))) ?_
      refine JL.val rfl (Run.nilPtr (.tmp .here)) ?_
      refine JL.val rfl (Run.fieldAddr (ft := 23) (foff := 0) (off := 0) @Try.underlying49 (by rfl) (@Try.sizeOf23 _) rfl rfl (.tmp .here)) ?_
      refine JL.val rfl (Run.loadB (@Try.isAgg23 _) (.tmp .here) (D.B) (by rfl)) ?_
      refine JL.val rfl (Run.move (.tmp (.there rfl (.there rfl (.there rfl (.there rfl (.there rfl (.there rfl (.there rfl (.there rfl (.there rfl (.there rfl (.there rfl (.there rfl (.there rfl (.there rfl .here)))))))))))))))) ?_
      refine JL.val rfl (Run.indexAddr (m := i) @Try.underlying23 (@Try.sizeOf53 _) (.tmp (.there rfl .here)) (.tmp .here) (rfl) (by omega) rfl) ?_
      refine JL.val rfl (Run.load (@Try.isAgg53 _) (.tmp .here) (by first | exact (ocell D.o1 hi1))) ?_
      have hfr : ∀ k, ownB e.1 k → base ≤ k ∧ ρ1 k ≠ .book ∧ ∀ m, ρ1 k ≠ .list m := fun k hk => by
        have h := hF k hk
        exact ⟨(R k (by rw [h]; exact fun h => (by cases h))).1, by rw [h]; exact fun h => (by cases h), fun m => by rw [h]; exact fun h => (by cases h)⟩
      have hl := H.h2
      have hl3 := H.h3
      refine JL.call rfl (Run.call @Try.call28 (.cons (.tmp (.there rfl (.there rfl (.there rfl (.there rfl (.there rfl (.there rfl (.there rfl .here)))))))) (.cons (.tmp .here) .nil))) (bytes_any _ C K R Gb hX hfr hel (by omega) H.h4 (by omega)) ?_
      rintro e w5 ⟨u3, u4, s2, ρ2, rfl, C2, K2, R2, hag2, hch, ht2, hd2, ha2, hu2, hL2⟩
      refine JRet.ret ?_
      have hsz := hK.size
      have H2 := num_bytes H ht2 ha2 hu2 (by omega) hel hL2
      have hno : ∀ k, isL ρ1 k → ¬ ownB e.1 k := fun k hk ho => (isL_of hk).2 i (hF k ho)
      have hD : ∀ k, (ρ1 k = .book ∨ ownB e.1 k) → ρ1 k ≠ .late ∧ ρ1 k ≠ .got ∧ ρ1 k ≠ .want := by
        intro k hk
        rcases hk with h | h
        · rw [h]; exact ⟨fun h => (by cases h), fun h => (by cases h), fun h => (by cases h)⟩
        · rw [hF k h]; exact ⟨fun h => (by cases h), fun h => (by cases h), fun h => (by cases h)⟩
      have hnn : ∀ k, (ρ1 k = .late ∨ ρ1 k = .got ∨ ρ1 k = .want) → ρ1 k ≠ .none := by
        intro k hk
        rcases hk with h | h | h <;> rw [h] <;> exact fun h => (by cases h)
      have D2 : LateOk w5 ρ2 _ _ _ _ _ := (D.ch hch hD).role (fun k _ hr => hag2 k (R k (hnn k hr)).2 (hno k hr))
      have F2 : From w5 ρ2 G (i + 1) := fun j e2 hj he2 => by
        obtain ⟨⟨ys, hY⟩, hY2, hY3⟩ := F j e2 (by omega) he2
        have hnx : ∀ k, ownB e2.1 k → ¬ ownB e.1 k := fun k hk ho => by
          have h1 := hY2 k hk
          rw [hF k ho] at h1
          cases h1; omega
        exact ⟨⟨ys, hY.ch hch (fun k hk hs => by
          rcases hs with h | h
          · rw [hY2 k hk] at h; cases h
          · exact hnx k hk h)⟩, fun k hk => (hag2 k (hY.ge k hk).2 (hnx k hk)).trans (hY2 k hk), hY3⟩
      have hch2 : ∀ k, (ρ1 k = .book ∨ ownB e.1 k) → isS ρ1 k := by
        intro k hk
        rcases hk with h | h
        · exact isS_B (.inl h)
        · unfold isS; rw [hF k h]; exact ⟨fun h => (by cases h), fun h => (by cases h)⟩
      have hK2 := hK.comp hch (fun k hk hl => hS k hl (hch2 k hk))
      have hag3 : ∀ k, k < w0.heap.size → (∀ i, ρ k ≠ .fresh i) → ρ2 k = ρ k := fun k hk hn => by
        have h1 := hag k hk hn
        have hx : ¬ ownB e.1 k := fun ho => hn i (h1.symm.trans (hF k ho))
        exact (hag2 k (by omega) hx).trans h1
      have hS2 : ∀ k, k < w0.heap.size → isS ρ2 k → isS ρ k := fun k hk hs => by
        by_cases ho : ownB e.1 k
        · exact hS k hk (hch2 k (.inr ho))
        · refine hS k hk ?_
          unfold isS at hs ⊢; rw [← hag2 k (by omega) ho]; exact hs
      refine JL.nil ?_
      refine JE.blk ?_
      refine JE.seq ?_
      refine JC.region ?_
      refine JL.val rfl (Run.move (.tmp (.there rfl (.there rfl (.there rfl (.there rfl (.there rfl (.there rfl (.there rfl (.there rfl (.there rfl (.there rfl (.there rfl (.there rfl (.there rfl (.there rfl (.there rfl (.there rfl (.there rfl (.there rfl .here)))))))))))))))))))) ?_
      refine JL.val rfl (Run.add (.tmp .here) .const (wrap_i64 (by omega))) ?_
      refine JL.val rfl (Run.assign (.tmp .here)) ?_
      refine JL.nil ?_
      exact JE.again (i + 1, s2, ρ2, u3, u4) (.cons (.there rfl (.there rfl (.there rfl (.there rfl (.there rfl (.there rfl (.there rfl (.there rfl (.there rfl (.there rfl (.there rfl (.there rfl (.there rfl (.there rfl (.there rfl (.there rfl (.there rfl (.there rfl (.there rfl .here))))))))))))))))))) (.cons (.there rfl (.there rfl (.there rfl (.there rfl (.there rfl (.there rfl (.there rfl (.there rfl (.there rfl (.there rfl (.there rfl (.there rfl (.there rfl (.there rfl (.there rfl (.there rfl (.there rfl (.there rfl (.there rfl (.there rfl .here)))))))))))))))))))) (.conse .here (rfl) .nil))) (⟨by omega, C2, K2, R2, Gb.up hch, H2, by omega, D2, F2, hag3, hS2, hK2⟩) (by simp only [hmu4]; omega)
    · have hlt2 := of_decide_eq_false hlt2
      have hBs := D.B
      refine JC.exit ?_
      refine JE.exit_seq ?_
      refine JE.exit_seq ?_
      refine JE.exit_here ?_
      refine JE.seq ?_
      refine JC.seq ?_
      refine JC.region ?_
      refine JL.val rfl (Run.move (.tmp (.there rfl (.there rfl (.there rfl (.there rfl (.there rfl (.there rfl (.there rfl .here))))))))) ?_
      refine JL.val rfl (Run.nilPtr (.tmp .here)) ?_
      refine JL.val rfl (Run.fieldAddr (ft := 23) (foff := 0) (off := 0) @Try.underlying49 (by rfl) (@Try.sizeOf23 _) rfl rfl (.tmp .here)) ?_
      refine JL.storeB (@Try.sizeOf23 _) (.tmp .here) .const (by rfl) (by rfl) hBs rfl ?_
      intro w6 hc7 hb8
      replace hBs := hb8; clear hb8
      refine JL.nil ?_
      refine JE.keep (L := _) (.cons (.there rfl (.there rfl (.there rfl (.there rfl (.there rfl (.there rfl (.there rfl (.there rfl (.there rfl (.there rfl .here)))))))))) (.cons (.there rfl (.there rfl (.there rfl (.there rfl (.there rfl (.there rfl (.there rfl (.there rfl (.there rfl (.there rfl (.there rfl .here))))))))))) .nil)) ?_
      refine JE.seq ?_
      refine JC.seq ?_
      refine JC.region ?_
      refine JL.val rfl (Run.move (.tmp .here)) ?_
      refine JL.val rfl (Run.nilPtr (.tmp .here)) ?_
      refine JL.val rfl (Run.fieldAddr (ft := 23) (foff := 1) (off := 1) @Try.underlying49 (by rfl) (@Try.sizeOf23 _) rfl rfl (.tmp .here)) ?_
      refine JL.storeB (@Try.sizeOf23 _) (.tmp .here) .const (by rfl) (by rfl) hBs rfl ?_
      intro w9 hc10 hb11
      replace hBs := hb11; clear hb11
      refine JL.nil ?_
      refine JE.seq ?_
      refine JC.seq ?_
      refine JC.region ?_
      refine JL.val rfl (Run.move (.tmp (.there rfl (.there rfl (.there rfl (.there rfl .here)))))) ?_
      have hcc := hc7.trans hc10
      have hsz := hK.size
      have htb : ∀ k, One tb k → ρ1 k = .late := fun k hk => by have h2 : k = tb := hk; rw [h2]; exact D.rb
      have hK2 := hK.comp hcc (fun k hk hl => hS k hl (isS_L (.inl (htb k hk))))
      replace C := C.ch hcc (fun k hk => by rw [htb k hk]; exact fun h => (by cases h))
      replace K := K.ch hcc (fun k m hk => by rw [htb k hk]; exact fun h => (by cases h))
      replace R := R.up hcc.size
      replace Gb := Gb.up hcc
      have D2 : LateOk w9 ρ1 tb (.slice none 0 0) (.slice none 0 0) [] [] := ⟨hBs, D.rb, Owns.nil _ _ _ _, fun k hk => hk.elim, Owns.nil _ _ _ _, fun k hk => hk.elim⟩
      clear D F E hBs hK
      refine JL.call rfl (Run.call @Try.call18 (.cons (.tmp .here) .nil)) (look_any _ C K R Gb H) ?_
      rintro e w12 ⟨u3, u4, s3, ρ3, rfl, C3, K3, R3, G3, hag3, hch3, ht3, hu3, H3⟩
      refine JRet.ret ?_
      have hsz2 := hK2.size
      have hnb : ∀ k, isB ρ1 k → ρ1 k ≠ .late ∧ ρ1 k ≠ .got ∧ ρ1 k ≠ .want := by
        intro k hk
        rcases hk with h | ⟨m, h⟩ <;> rw [h] <;> exact ⟨fun h => (by cases h), fun h => (by cases h), fun h => (by cases h)⟩
      have D3 : LateOk w12 ρ3 tb (.slice none 0 0) (.slice none 0 0) [] [] := (D2.ch hch3 hnb).role (fun k _ hr => hag3 k (R k (by rcases hr with h | h | h <;> rw [h] <;> exact fun h => (by cases h))).2)
      have hK3 := hK2.comp hch3 (fun k hk hl => hS k hl (isS_B hk))
      refine JL.val rfl (Run.assign (.tmp .here)) ?_
      refine JL.nil ?_
      refine JE.keep (L := _) (.cons .here .nil) ?_
      refine JE.seq ?_
      refine JC.ret ?_
      refine JE.ret1 @Try.results11 .here ?_
      exact ⟨u3, u4, _, _, s3, ρ3, [], rfl, C3, K3, R3, G3, H3, D3, fun i e he => by simp at he, fun k hk hn => (hag3 k (by omega)).trans (hag k hk hn), hK3, by simp; omega, .inr rfl⟩

end Go.Proofs.Ytggngmmbpkoooaa.Bk
